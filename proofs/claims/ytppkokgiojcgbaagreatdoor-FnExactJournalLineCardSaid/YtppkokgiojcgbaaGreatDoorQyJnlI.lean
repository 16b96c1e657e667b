/-
  Several texts in one.
-/
import Derived.Test.YtppkokgiojcgbaaGreatDoorQyRemP
import Derived.Test.YtppkokgiojcgbaaGreatDoorQyIndI
import Derived.Test.YtppkokgiojcgbaaGreatDoorQyGA
import Derived.Test.YtppkokgiojcgbaaGreatDoorQyHamT
import Derived.Test.YtppkokgiojcgbaaGreatDoorQyApplyS
import Derived.Test.YtppkokgiojcgbaaGreatDoorQyThoB
/-
  Plain: the graphs along a journal of edits, and whether they are in a class; lists of bools.
-/
namespace Go.Proofs.YtppkokgiojcgbaaGreatDoor
open Go.RowKit

/-- The rows behind i edits from the k-th on, whether they fit or not. -/
noncomputable def apS (sz : Int) (m : Nat) (a : Nat → Bool) (v u : Nat → Int) : Nat → Nat → (Nat → Int) → (Nat → Int)
  | _, 0, x => x
  | k, i + 1, x => apS sz m a v u (k + 1) i (apX (a k) sz m x (v k) (u k))
section
variable {sz : Int} {m n : Nat} {a : Nat → Bool} {v u : Nat → Int} {x y : Nat → Int} {s : List UInt8}
theorem apS_snoc : ∀ i k (x : Nat → Int), apS sz m a v u k (i + 1) x = apX (a (k + i)) sz m (apS sz m a v u k i x) (v (k + i)) (u (k + i))
  | 0, _, _ => rfl
  | i + 1, k, x => by
    have h := apS_snoc i (k + 1) (apX (a k) sz m x (v k) (u k))
    rw [show k + 1 + i = k + (i + 1) by omega] at h
    exact h
theorem apF_pre : ∀ r k (x y : Nat → Int), apF sz m a v u k r x = some y → ∀ i, i ≤ r → apF sz m a v u k i x = some (apS sz m a v u k i x)
  | 0, k, x, y, h, i, hi => by
    obtain rfl : i = 0 := by omega
    rfl
  | r + 1, k, x, y, h, i, hi => by
    cases hb : apB (a k) sz m x (v k) (u k)
    · rw [apF_no hb] at h; cases h
    · rw [apF_yes hb] at h
      cases i with
      | zero => rfl
      | succ i =>
        rw [apF_yes hb, apS]
        exact apF_pre r _ _ _ h i (by omega)
theorem apR_parts (h : apR sz m x n a v u = some y) : okB sz m x = true ∧ n ≤ 12 ∧ apF sz m a v u 0 n x = some y := by
  unfold apR at h
  split at h
  · rename_i hh; exact ⟨hh.1, hh.2, h⟩
  · cases h
theorem apR_pre (h : apR sz m x n a v u = some y) {i : Nat} (hi : i ≤ n) : apR sz m x i a v u = some (apS sz m a v u 0 i x) := by
  obtain ⟨h1, h2, h3⟩ := apR_parts h
  rw [apR_yes h1 (by omega)]
  exact apF_pre n 0 x y h3 i hi
/-- Is the graph in the class, at the beginning and behind each of the first k - 1 edits? -/
noncomputable def meV (sz : Int) (m : Nat) (x : Nat → Int) (a : Nat → Bool) (v u : Nat → Int) (s : List UInt8) (k : Nat) : List Bool := (List.range k).map fun i => isB sz m (apS sz m a v u 0 i x) s
noncomputable def meL (sz : Int) (m : Nat) (x : Nat → Int) (n : Nat) (a : Nat → Bool) (v u : Nat → Int) (s : List UInt8) : List Bool := if apD sz m x n a v u = true then meV sz m x a v u s (n + 1) else []
theorem meV_succ (k : Nat) : meV sz m x a v u s (k + 1) = meV sz m x a v u s k ++ [isB sz m (apS sz m a v u 0 k x) s] := by
  unfold meV; rw [List.range_succ, List.map_append]; rfl
theorem meV_len (k : Nat) : (meV sz m x a v u s k).length = k := by unfold meV; simp
theorem meL_no (h : apR sz m x n a v u = none) : meL sz m x n a v u s = [] := by unfold meL; rw [(ap_none h).1]; rfl
theorem meL_yes (h : apR sz m x n a v u = some y) : meL sz m x n a v u s = meV sz m x a v u s (n + 1) := by unfold meL; rw [(ap_some h).1]; rfl
theorem meL_len : (meL sz m x n a v u s).length ≤ 13 := by
  cases h : apR sz m x n a v u
  · rw [meL_no h]; simp
  · rw [meL_yes h, meV_len]
    have := (apR_parts h).2.1
    omega
end

/-- A list of bools, place by place. -/
def blL (l : List Bool) (j : Nat) : Value := .bool (l.getD j false)
theorem blL_left {l : List Bool} {k : Bool} {j : Nat} (h : j < l.length) : blL (l ++ [k]) j = blL l j := by
  unfold blL
  simp [List.getD, List.getElem?_append_left h]
theorem blL_news {l : List Bool} {k : Bool} : ∀ i, i < 1 → (#[Value.bool k] : Array Value)[i]? = some (blL (l ++ [k]) (l.length * 1 + i)) := by
  intro i hi
  have h0 : i = 0 := by omega
  subst h0
  unfold blL
  simp [List.getD]
/-- A bool onto a list in a block of its own. -/
theorem wpList_pushBl (W : World) {ops : Array Oper} {rest : List Oper} {o : Oper} {a : Act} {Q : Exit → Act → World → Prop} (hgd : o.guard = none) (s y : Operand)
    (ho : o.op = .call { callee := .builtin .append, args := #[s, y], argTypes := #[51, 51] })
    (g c : Nat) (T : List Bool) (h : Own W g (g + 1) 4 1 (some ⟨g, 0, none⟩) T.length c (blL T)) (hg : g < W.heap.size) (k : Bool) (hs : a.eval s = .slice (some ⟨g, 0, none⟩) T.length c) (cx H : Nat) (hH : W.heap.size = H) (hy : a.eval y = .slice (some ⟨H, 0, none⟩) 1 cx)
    (hn : T.length ≤ 1073741824)
    (hK : ∀ g' cap w', Own w' g' (g' + 1) 4 1 (some ⟨g', 0, none⟩) (T.length + 1) cap (blL (T ++ [k])) → (g' = g ∨ W.heap.size < g') → g' < w'.heap.size → Fr g (g + 1) W w' → wpList Tryz.prog ops Q rest (a.put o.dst (.slice (some ⟨g', 0, none⟩) (T.length + 1) cap)) w') :
    wpList Tryz.prog ops Q (o :: rest) a (W.alloc (Obj.cells #[.bool k] 4)) := by
  subst hH
  have ha := h.alloc (Obj.cells #[.bool k] 4)
  refine wpList_push (W.alloc (Obj.cells #[.bool k] 4)) hgd s y 51 ho 4 _ 1 1 Tryz.underlying51 info_bool rfl (by omega) g (g + 1) (some ⟨g, 0, none⟩) T.length c (blL (T ++ [k])) hs
    (ha.congr (fun j hj => (blL_left (by omega)).symm)) (by simp; omega) W.heap.size #[.bool k] 4 (0, 0) cx (heap_alloc_new W _) hy rfl blL_news (by simp [Value.oneCell']) hn (by omega) ?_
  intro g' cap w' hp
  obtain ⟨h1, h2, h3, h4⟩ := hp.caged
  exact hK g' cap w' h1 (h2.imp id (fun h => by rw [h]; simp)) h3 (((Fr.refl g (g + 1) W).alloc _).trans h4)
end Go.Proofs.YtppkokgiojcgbaaGreatDoor

/-
  Contracts: whether the graphs along a journal are in a class; the first edit that leads out of it (the program's).
-/
namespace Go.Proofs.YtppkokgiojcgbaaGreatDoor
open Go.RowKit

theorem ED.pre {w : World} {A : Option Addr} {n c k : Nat} {a : Nat → Bool} {v u : Nat → Int} (h : ED w A n c a v u) (hk : k ≤ n) : ED w A k c a v u :=
  ⟨⟨Nat.le_trans hk h.rd.1, fun h0 => by
    obtain ⟨b, o, e, l, hc⟩ := h.rd.2 (by omega)
    exact ⟨b, o, e, l, fun j hj => hc j (by omega)⟩⟩⟩
theorem bl_nil (w : World) : Own (w.alloc (Obj.cells #[] 4)) w.heap.size (w.heap.size + 1) 4 1 (some ⟨w.heap.size, 0, none⟩) 0 0 (blL []) :=
  .inr ⟨w.heap.size, #[], rfl, Nat.le_refl _, Nat.lt_succ_self _, heap_alloc_new w _, Nat.le_refl _, by unfold maxLen; omega, rfl, fun j hj => absurd hj (by omega)⟩
/-- What MembershipOf leaves. -/
def meQ (w : World) (l : List Bool) (e : Ending) (w' : World) : Prop :=
  ∃ A' c', e = .returned (.slice A' l.length c') ∧ Own w' w.heap.size w'.heap.size 4 1 A' l.length c' (blL l) ∧ Below w.heap.size w w'
section
variable (sz : Int) (A : Option Addr) (m c : Nat) (x : Nat → Int) (Al : Option Addr) (n cl : Nat) (a : Nat → Bool) (v u : Nat → Int) (str : ByteArray) (w : World)
set_option maxRecDepth 100000 in
set_option maxHeartbeats 3200000 in
theorem MembershipOf_i (h : GA w A m c x) (hl : ED w Al n cl a v u) (hm : m ≤ 1048576) (hn : n ≤ 1048576) :
    Calls Tryz.prog 26 #[.agg #[.int .i64 sz, .slice A m c], .slice Al n cl, .string str] w (meQ w (meL sz m x n a v u str.toList)) := by
  obtain ⟨W, hW⟩ : ∃ W : World, W = ((w.alloc (Obj.cells #[Value.int IntKind.i64 sz, Value.slice A m c] 29)).alloc (Obj.cells #[] 4)) := ⟨_, rfl⟩
  have HB : Hid (From w W) := by rw [hW]; exact (From.alloc _ _).alloc_ _
  have HK := Lib.hid (h.keep HB.out.below)
  have HD := Lib.hid (hl.keep HB.out.below)
  have HC : Hid (GC W w.heap.size sz A m c) := by rw [hW]; exact (GC.new _ _ _ _ _).keep ((Below.refl _ _).alloc (Nat.le_refl _) _)
  have hzW : W.heap.size = w.heap.size + 2 := by rw [hW]; simp
  have HO : Hid (Own W (w.heap.size + 1) (w.heap.size + 1 + 1) 4 1 (some ⟨w.heap.size + 1, 0, none⟩) 0 0 (blL [])) := by
    rw [hW]
    have := bl_nil (w.alloc (Obj.cells #[Value.int IntKind.i64 sz, Value.slice A m c] 29))
    have e : (w.alloc (Obj.cells #[Value.int IntKind.i64 sz, Value.slice A m c] 29)).heap.size = w.heap.size + 1 := by simp
    rw [e] at this
    exact this
  have HW := Lib.hid hW
  have HKw := Lib.hid h
  have HDw := Lib.hid hl
  clear hW h hl
  go_enter Tryz.func26, Tryz.ntmps26
  have e0 := HC.out.c0
  have e1 := HC.out.c1
  go_wp2_with fail
  rw [← HW.out]
  clear HW
  refine (ApplyEdits_i sz A m c x Al n cl a v u W W.heap.size HK.out.rd HD.out.rd (Nat.le_refl _) hm hn).mono ?_
  rintro e w1 ⟨A1, c1, rfl, ho1, hb1⟩
  have HO1 := Lib.hid (HO.out.keepB hb1 (by omega))
  have hz1 := hb1.size
  clear e0 e1
  replace HB := Lib.hid (HB.out.keep hb1)
  replace HK := Lib.hid (HK.out.keep hb1)
  replace HD := Lib.hid (HD.out.keep hb1)
  replace HC := Lib.hid (HC.out.keep hb1)
  clear hb1 ho1 HO
  have e0 := HC.out.c0
  have e1 := HC.out.c1
  cases hr : apR sz m x n a v u with
  | none =>
    obtain ⟨d1, d2, d3⟩ := ap_none hr
    have Hn : Hid (meL sz m x n a v u str.toList = []) := meL_no hr
    rw [d1, d2, d3]
    clear hr d1 d2 d3
    have HBz := Lib.hid (HB.out.alloc_ (Obj.cells #[Value.int IntKind.i64 0, Value.slice A1 0 c1] 29))
    have HOz := Lib.hid ((HO1.out.alloc (Obj.cells #[Value.int IntKind.i64 0, Value.slice A1 0 c1] 29)).mono (lo' := w.heap.size) (hi' := (w1.alloc (Obj.cells #[Value.int IntKind.i64 0, Value.slice A1 0 c1] 29)).heap.size) (by omega) (by simp; omega))
    go_wp2
    go_ret
    rw [Hn.out]
    exact ⟨_, _, rfl, HOz.out, HBz.out.below⟩
  | some y =>
    obtain ⟨d1, d2, d3, _⟩ := ap_some hr
    obtain ⟨hok, hn12, _⟩ := apR_parts hr
    have Hn : Hid (meL sz m x n a v u str.toList = meV sz m x a v u str.toList (n + 1)) := meL_yes hr
    have Hpre : Hid (∀ i, i ≤ n → apR sz m x i a v u = some (apS sz m a v u 0 i x)) := fun i hi => apR_pre hr hi
    rw [d1, d2, d3]
    clear hr d1 d2 d3 hok
    have hHB := HB
    obtain ⟨W2, hW2⟩ : ∃ W2 : World, W2 = w1.alloc (Obj.cells #[Value.int IntKind.i64 sz, Value.slice A1 m c1] 29) := ⟨_, rfl⟩
    have hb2 : Below w1.heap.size w1 W2 := by rw [hW2]; exact (Below.refl _ _).alloc (Nat.le_refl _) _
    have HO2 : Hid (Own W2 (w.heap.size + 1) (w.heap.size + 1 + 1) 4 1 (some ⟨w.heap.size + 1, 0, none⟩) 0 0 (blL (meV sz m x a v u str.toList 0))) := HO1.out.keepB hb2 (by omega)
    have hz2 := hb2.size
    have HW2 := Lib.hid hW2
    clear hW2 HO1 hHB
    clear e0 e1
    replace HB := Lib.hid (HB.out.keep hb2)
    replace HK := Lib.hid (HK.out.keep hb2)
    replace HD := Lib.hid (HD.out.keep hb2)
    replace HC := Lib.hid (HC.out.keep hb2)
    clear hb2
    have e0 := HC.out.c0
    have e1 := HC.out.c1
    go_wp2_with fail
    rw [← HW2.out]
    clear HW2
    go_loopw [7, 26] (fun o i wr => ∃ (k c' g : Nat), k ≤ n + 1 ∧ i = .int .i64 k ∧ o = .slice (some ⟨g, 0, none⟩) k c' ∧ w.heap.size < g ∧ g < wr.heap.size ∧ Hid (Own wr g (g + 1) 4 1 (some ⟨g, 0, none⟩) k c' (blL (meV sz m x a v u str.toList k))) ∧ Hid (From w wr) ∧ Hid (GC wr w.heap.size sz A m c)) (fun _ i _ => n + 1 - (intOf i).toNat)
    case atStart => exact ⟨0, 0, w.heap.size + 1, by omega, rfl, rfl, by omega, by omega, HO2, HB, HC⟩
    case round =>
      clear HO2 HB HK HC HD e0 e1
      obtain ⟨k, c', g, hk, rfl, rfl, hg1, hg2, HO, HB, HC⟩ := hrel
      have hbk : Below w.heap.size w wr := HB.out.below
      by_cases hkn : k ≤ n
      · have i1 : (k : Int) < (n : Int) + 1 := by omega
        have HK := Lib.hid (HKw.out.keep hbk)
        have HD := Lib.hid (HDw.out.keep hbk)
        have hcl : n ≤ cl := HD.out.rd.1
        obtain ⟨y, hy⟩ : ∃ y, y = apS sz m a v u 0 k x := ⟨_, rfl⟩
        have KA : Hid (∀ z : World, Below wr.heap.size wr z → Calls Tryz.prog 18 #[.agg #[.int .i64 sz, .slice A m c], .slice Al k cl] z fun e w' => ∃ A' c', e = .returned (.tuple #[.agg #[.int .i64 sz, .slice A' m c'], .bool true]) ∧ Own w' z.heap.size w'.heap.size 3 1 A' m c' (fun j => .int .i64 (y j)) ∧ Below z.heap.size z w') := fun z hz => by
          have hk2 := ApplyEdits_i sz A m c x Al k cl a v u z z.heap.size (HK.out.keep hz).rd ((HD.out.keep hz).pre hkn).rd (Nat.le_refl _) hm (by omega)
          obtain ⟨q1, q2, q3, q4⟩ := ap_some (Hpre.out k hkn)
          rw [q1, q2, q3, q4, ← hy] at hk2
          exact hk2
        obtain ⟨b, hb⟩ : ∃ b, b = isB sz m y str.toList := ⟨_, rfl⟩
        have KI : Hid (∀ {z : World} {A' : Option Addr} {c' : Nat}, GA z A' m c' y → Calls Tryz.prog 72 #[.agg #[.int .i64 sz, .slice A' m c'], .string str] z fun e w' => e = .returned (.bool b) ∧ Below z.heap.size z w') := by rw [hb]; exact fun h => IsIn_i sz _ m _ y str _ h hm
        obtain ⟨T, hT⟩ : ∃ T, T = meV sz m x a v u str.toList k := ⟨_, rfl⟩
        have Hs : Hid (meV sz m x a v u str.toList (k + 1) = T ++ [b]) := by show _ = _; rw [hT, hb, hy]; exact meV_succ k
        have hTl : T.length = k := by rw [hT, meV_len]
        rw [← hT] at HO
        clear hT hy hb
        subst hTl
        have HOq := HO
        have HX : Hid (From wr wr) := From.refl _
        have i2 : T.length ≤ cl := by omega
        have e0 := HC.out.c0
        have e1 := HC.out.c1
        have HSC : Hid (∀ z : World, Below wr.heap.size wr z → (Below wr.heap.size wr z ∧ z.cell? ⟨w.heap.size, 0, none⟩ = some (.int .i64 sz) ∧ z.cell? ⟨w.heap.size, 1, none⟩ = some (.slice A m c))) := fun z hz => ⟨hz, up_ hz e0, up_ hz e1⟩
        have HZ1 : Hid (Below wr.heap.size wr wr.drew) := (Below.refl _ _).drew
        have HZ2 : Hid (Below wr.heap.size wr ((wr.alloc (Obj.cells #[Value.int IntKind.i64 0, Value.slice none 0 0] 29)).drew)) := ((Below.refl _ _).alloc (Nat.le_refl _) _).drew
        have HN2 : Hid (GC ((wr.alloc (Obj.cells #[Value.int IntKind.i64 0, Value.slice none 0 0] 29)).drew) wr.heap.size 0 none 0 0) := (GC.new _ _ _ _ _).drew
        have KR1 : Hid (∀ z : World, Below wr.heap.size wr z → _) := fun z hz => KA.out z hz
        have HS1 := Lib.hid (HSC.out _ HZ1.out)
        have HS2 := Lib.hid (HSC.out _ HZ2.out)
        go_wp2
        go_region_held3 (fun z => Below wr.heap.size wr z ∧ z.cell? ⟨w.heap.size, 0, none⟩ = some (.int .i64 sz) ∧ z.cell? ⟨w.heap.size, 1, none⟩ = some (.slice A m c))
          (first | exact HS1.out | exact HS2.out | exact HSC.out _ hz5 | exact HSC.out _ (bl_alloc hz5) | exact HSC.out _ (bl_set hz5 hq5) | exact HSC.out _ (bl_set (bl_set hz5 hq5) hq5) | fail)
          (first | (go_at_call 18; ((with_reducible refine (KR1.out _ HZ1.out).mono ?_); rintro e w5 ⟨A5, c5, rfl, hO5, hb5⟩; have hz5 := bl_trans HZ1.out hb5)) | (go_at_call 18; ((with_reducible refine (KR1.out _ HZ2.out).mono ?_); rintro e w5 ⟨A5, c5, rfl, hO5, hb5⟩; have hz5 := bl_trans HZ2.out hb5; have hn5 := HN2.out.keep hb5; have hq5 : wr.heap.size ≤ wr.heap.size := Nat.le_refl _; have hl5 : wr.heap.size + 1 ≤ (wr.alloc (Obj.cells #[Value.int IntKind.i64 0, Value.slice none 0 0] 29)).drew.heap.size := (by show _ ≤ (wr.alloc _).heap.size; simp); have n0 := hn5.c0; have n1 := hn5.c1; have n2 := hn5.f0; have n3 := hn5.f1)))
        all_goals
          first
            | (obtain ⟨W5, hW5⟩ : ∃ W5 : World, W5 = ((w5.setCell ⟨wr.heap.size, 0, none⟩ (.int .i64 sz)).setCell ⟨wr.heap.size, 1, none⟩ (.slice A5 m c5)) := ⟨_, rfl⟩
               rw [← hW5]
               have HQ5 : Hid (GC W5 wr.heap.size sz A5 m c5) := by rw [hW5]; exact hn5.set
               have HZ5 : Hid (Below wr.heap.size wr W5) := by rw [hW5]; exact bl_set (bl_set hz5 hq5) hq5
               have HO5 : Hid (Own W5 wr.heap.size W5.heap.size 3 1 A5 m c5 (fun j => .int .i64 (y j))) := by
                 rw [hW5]
                 exact (hO5.keep (fr2 _ wr.heap.size _ _) (.inr hl5)).mono (Nat.le_trans (Nat.le_succ_of_le hq5) hl5) (by simp [World.setCell])
               have HX5 : Hid (wr.heap.size ≤ wr.heap.size) := hq5
               clear hW5 hn5 n0 n1 n2 n3 hO5 hq5 hl5)
            | (obtain ⟨W5, hW5⟩ : ∃ W5 : World, W5 = (w5.alloc (Obj.cells #[.int .i64 sz, .slice A5 m c5] 29)) := ⟨_, rfl⟩
               rw [← hW5]
               have HQ5 : Hid (GC W5 w5.heap.size sz A5 m c5) := by rw [hW5]; exact GC.new _ _ _ _ _
               have HZ5 : Hid (Below wr.heap.size wr W5) := by rw [hW5]; exact bl_alloc hz5
               have HO5 : Hid (Own W5 wr.heap.size W5.heap.size 3 1 A5 m c5 (fun j => .int .i64 (y j))) := by rw [hW5]; exact (hO5.alloc _).mono (by first | exact Nat.le_refl _ | (have := HZ1.out.size; omega)) (by simp)
               have HX5 : Hid (wr.heap.size ≤ w5.heap.size) := hz5.size
               clear hW5 hO5)
            | fail
        all_goals clear hz5 hb5 HSC HZ1 HZ2 HN2 HS1 HS2  KR1
        all_goals
          have m0 := HQ5.out.c0
          have m1 := HQ5.out.c1
          have HA5 : Hid (GA W5 A5 m c5 y) := ⟨HO5.out.rd⟩
          have HOw : Hid (Own W5 g (g + 1) 4 1 (some ⟨g, 0, none⟩) T.length c' (blL T)) := HOq.out.keepB HZ5.out hg2
          have hgw : g < W5.heap.size := Nat.lt_of_lt_of_le hg2 HZ5.out.size
          clear KA HOq HO5 HX5
          clear e0 e1
          replace HX := Lib.hid (HX.out.keep HZ5.out)
          replace HB := Lib.hid (HB.out.keep HZ5.out)
          replace HC := Lib.hid (HC.out.keep HZ5.out)
          have e0 := HC.out.c0
          have e1 := HC.out.c1
          go_wp2_with fail
          refine (KI.out HA5.out).mono ?_
          rintro e w7 ⟨rfl, hb7⟩
          have HO7 : Hid (Own w7 g (g + 1) 4 1 (some ⟨g, 0, none⟩) T.length c' (blL T)) := HOw.out.keepB hb7 hgw
          have hg7 : g < w7.heap.size := Nat.lt_of_lt_of_le hgw hb7.size
          clear m0 m1 HA5 HQ5 HZ5 HOw KI
          clear e0 e1
          replace HX := Lib.hid (HX.out.keep hb7)
          replace HB := Lib.hid (HB.out.keep hb7)
          replace HC := Lib.hid (HC.out.keep hb7)
          clear hb7
          have e0 := HC.out.c0
          have e1 := HC.out.c1
          have hzB := HB.out.below.size
          go_wp2_with (first | (at_builtin; (refine wpList_pushBl w7 rfl _ _ rfl g c' T HO7.out hg7 b rfl 1 w7.heap.size rfl rfl (by omega) ?_; intro g3 c3 w3 hO3 hg4 hg5 hf3)))
          have HO3 : Hid (Own w3 g3 (g3 + 1) 4 1 (some ⟨g3, 0, none⟩) (T.length + 1) c3 (blL (meV sz m x a v u str.toList (T.length + 1)))) := by show Own _ _ _ _ _ _ _ _ _; rw [Hs.out]; exact hO3
          have HB3 : Hid (From w w3) := ⟨HB.out.below.trans (hf3.below (by omega) hzB)⟩
          have HC3 : Hid (GC w3 w.heap.size sz A m c) := HC.out.keepF hf3 (.inl hg1)
          clear hO3 hf3
          go_roundw
          case rel => exact ⟨T.length + 1, c3, g3, by omega, by go_num, rfl, by omega, hg5, HO3, HB3, HC3⟩
          case measure => (simp [intOf] <;> omega)
      · have hk1 : k = n + 1 := by omega
        have i1 : (n : Int) + 1 ≤ (k : Int) := by omega
        have Hk : Hid (meV sz m x a v u str.toList k = meL sz m x n a v u str.toList) := by show _ = _; rw [Hn.out, hk1]
        have Hkl : Hid ((meL sz m x n a v u str.toList).length = k) := by show _ = _; rw [← Hk.out, meV_len]
        rw [Hk.out] at HO
        clear hk1
        go_wp2
        go_ret
        exact ⟨some ⟨g, 0, none⟩, c', by rw [Hkl.out]; rfl, by rw [Hkl.out]; exact HO.out.mono (by omega) hg2, HB.out.below⟩
end
end Go.Proofs.YtppkokgiojcgbaaGreatDoor
