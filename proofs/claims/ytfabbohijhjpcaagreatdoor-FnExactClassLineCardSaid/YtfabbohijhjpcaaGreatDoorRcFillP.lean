/-
  Several texts in one.
-/
import Derived.Test.YtfabbohijhjpcaaGreatDoorRcListZ
import Derived.Test.YtfabbohijhjpcaaGreatDoorRcTake
import Derived.Test.YtfabbohijhjpcaaGreatDoorRcBarP
import Derived.Test.YtfabbohijhjpcaaGreatDoorRcFirst
import Derived.Test.YtfabbohijhjpcaaGreatDoorRcGB
/-
-/
namespace Go.Proofs.YtfabbohijhjpcaaGreatDoor
open Go.RowKit
def lsQ (w : World) (o : Option (List Nat)) (e : Ending) (w' : World) : Prop :=
 ∃ A' c', e = .returned (.tuple #[.slice A' (o.getD []).length c', .bool o.isSome]) ∧ ON w.heap.size w' A' c' (o.getD []) ∧ Below w.heap.size w w'
theorem lsQ.no {w w' : World} (hb : Below w.heap.size w w') : lsQ w none (.returned (.tuple #[.slice none 0 0, .bool false])) w' := ⟨none, 0, rfl, ⟨Own.nil _ _ _ _ _ _⟩, hb⟩
theorem lsQ.yes {w w' : World} {A : Option Addr} {c : Nat} {l : List Nat} (ho : ON w.heap.size w' A c l) (hb : Below w.heap.size w w') : lsQ w (some l) (.returned (.tuple #[.slice A l.length c, .bool true])) w' := ⟨A, c, rfl, ho, hb⟩
theorem lsQ.up {w w' : World} {o : Option (List Nat)} {e : Ending} {W : World} (h : lsQ W o e w') (hb : Below w.heap.size w W) : lsQ w o e w' := by
 obtain ⟨A, c, h1, h2, h3⟩ := h
 exact ⟨A, c, h1, h2.mono hb.size, hb.trans (h3.mono hb.size)⟩
def lsK (p : Nat → Bool) (n : Nat) : Option Nat := (List.range n).find? p
theorem lsK_yes {p : Nat → Bool} {n k : Nat} (hk : k < n) (hp : p k = true) (hmin : ∀ j, j < k → p j = false) : lsK p n = some k := by
 unfold lsK
 rw [List.find?_range_eq_some]
 exact ⟨hp, by simp [hk], fun j hj => by simp [hmin j hj]⟩
theorem lsK_no {p : Nat → Bool} {n : Nat} (h : ∀ j, j < n → p j = false) : lsK p n = none := by
 unfold lsK
 rw [List.find?_eq_none]
 intro j hj
 simp [h j (List.mem_range.1 hj)]
theorem wpList_copyN (W : World) {ops : Array Oper} {rest : List Oper} {o : Oper} {a : Act} {Q : Exit → Act → World → Prop} (hgd : o.guard = none) (s z : Operand)
 (ho : o.op = .call { callee := .builtin .append, args := #[s, z], argTypes := #[24, 24] })
 (Al : Option Addr) (cl : Nat) (l : List Nat) (h : LN W Al cl l) (hl : l.length ≤ 1073741824) (H : Nat) (hH : W.heap.size = H) (hs : a.eval s = .slice (some ⟨H, 0, none⟩) 0 0) (hz : a.eval z = .slice Al l.length cl)
 (hK : ∀ A' c' w', Own w' W.heap.size w'.heap.size 3 1 A' l.length c' (ni l) → Below W.heap.size W w' → wpList Tryz.prog ops Q rest (a.put o.dst (.slice A' l.length c')) w') :
 wpList Tryz.prog ops Q (o :: rest) a (W.alloc (Obj.cells #[] 3)) := by
 subst hH
 have HO : Own (W.alloc (Obj.cells #[] 3)) W.heap.size (W.heap.size + 1) 3 1 (some ⟨W.heap.size, 0, none⟩) 0 0 (ni []) :=
  .inr ⟨W.heap.size, #[], rfl, Nat.le_refl _, Nat.lt_succ_self _, heap_alloc_new W _, Nat.le_refl _, by unfold maxLen; omega, rfl, fun j hj => absurd hj (by omega)⟩
 have HB : Below W.heap.size W (W.alloc (Obj.cells #[] 3)) := (Below.refl _ _).alloc (Nat.le_refl _) _
 refine wpList_appendI _ hgd s z ho hs HO hz (h.rd.keep HB (Nat.le_refl _)) HB.size (by omega) hl fun A' c' w' h1 h2 => ?_
 have h3 : Own w' W.heap.size w'.heap.size 3 1 A' l.length c' (ni l) := by
  have := h1
  rw [Nat.zero_add] at this
  exact this.congr fun j hj => by unfold thenI ni; simp
 have := hK A' c' w' h3 (HB.trans h2)
 rw [Nat.zero_add]
 exact this
section
variable {A : Option Addr} {m c : Nat} {r : Nat → Nat} {fn : FuncId} {caps : Array Value} {p : Nat → Bool}
end
end Go.Proofs.YtfabbohijhjpcaaGreatDoor

/-
-/
namespace Go.Proofs.YtfabbohijhjpcaaGreatDoor
open Go.RowKit
theorem always_n (A : Option Addr) (n c : Nat) (w : World) : Calls Tryz.prog 210 #[.slice A n c] w fun e w' => e = .returned (.bool true) ∧ Below w.heap.size w w' := by
 go_enter Tryz.func210, Tryz.ntmps210
 go_wp2
 go_ret
 exact ⟨rfl, Below.refl _ _⟩
section
variable {m c H : Nat} {A : Option Addr} {r : Nat → Nat} {fn : FuncId} {caps : Array Value} {p : List Nat → Int} {w0 : World}
end
end Go.Proofs.YtfabbohijhjpcaaGreatDoor

/-
-/
namespace Go.Proofs.YtfabbohijhjpcaaGreatDoor
open Go.RowKit
theorem LN.li {w : World} {A : Option Addr} {c : Nat} {l : List Nat} (h : LN w A c l) : LI w A l.length c (l.map fun v : Nat => (v : Int)) :=
 ⟨by simp, h.rd.congr fun k hk => by simp [List.getD, hk]⟩
section
variable {fn : FuncId} {caps : Array Value} {p : Int → Bool}
end
end Go.Proofs.YtfabbohijhjpcaaGreatDoor

/-
-/
namespace Go.Proofs.YtfabbohijhjpcaaGreatDoor
open Go.RowKit
theorem VZ.all {m : Nat} {l : List Int} (h : VZ m l) (hl : l.length = m) {v : Int} (h0 : 0 ≤ v) (h1 : v < m) : v ∈ l := by
 refine Classical.byContradiction fun hn => ?_
 have : VZ m (v :: l) := ⟨List.nodup_cons.2 ⟨hn, h.1⟩, fun u hu => by
  rw [List.mem_cons] at hu
  rcases hu with rfl | hu
  ·exact ⟨h0, h1⟩
  ·exact h.2 u hu⟩
 have := this.len
 rw [List.length_cons] at this
 omega
theorem VZ.drop {m : Nat} {l : List Int} (h : VZ m l) (k : Nat) : VZ m (l.drop k) := ⟨h.1.sublist (List.drop_sublist _ _), fun v hv => h.2 v (List.mem_of_mem_drop hv)⟩
def ixN (l : List Int) (v : Int) : Nat := (fIdx (fun j => l.getD j 0 == v) l.length).toNat
def ltN (r : Nat → Nat) (l : List Int) (v : Int) : Nat := r v.toNat &&& stN (l.drop (ixN l v))
theorem LI.drop {w : World} {b o n c k : Nat} {l : List Int} (h : LI w (some ⟨b, o, none⟩) n c l) (hk : k < n) : LI w (some ⟨b, o + k, none⟩) (n - k) (c - k) (l.drop k) :=
 ⟨by rw [List.length_drop, ← h.len], by have := h.rd.1; omega, fun hn => by
   obtain ⟨b', o', e, hb, hc⟩ := h.rd.2 (by omega)
   simp only [Option.some.injEq, Addr.mk.injEq, and_true] at e
   obtain ⟨rfl, rfl⟩ := e
   refine ⟨b, o + k, rfl, hb, fun j hj => ?_⟩
   rw [Nat.add_assoc, hc (k + j) (by omega)]
   simp [List.getD]⟩
end Go.Proofs.YtfabbohijhjpcaaGreatDoor

/-
-/
namespace Go.Proofs.YtfabbohijhjpcaaGreatDoor
open Go.RowKit
def orP (r : Nat → Nat) (v u : Nat) : Nat → Nat := fun i => if i = v then r v ||| 2 ^ u else if i = u then r u ||| 2 ^ v else r i
def foldP (r : Nat → Nat) (ps : List (Nat × Nat)) : Nat → Nat := ps.foldl (fun r p => orP r p.1 p.2) r
theorem orP_bit {r : Nat → Nat} {v u i j : Nat} (h : v ≠ u) : (orP r v u i).testBit j = ((r i).testBit j || decide ((v = i ∧ u = j) ∨ (u = i ∧ v = j))) := by
 unfold orP
 by_cases h1 : i = v
 ·subst h1
  rw [if_pos rfl, Nat.testBit_or, Nat.testBit_two_pow]
  congr 1
  rw [decide_eq_decide]
  constructor
  ·intro e; exact .inl ⟨rfl, e⟩
  ·rintro (⟨_, e⟩ | ⟨e, _⟩)
   ·exact e
   ·exact absurd e.symm h
 ·rw [if_neg h1]
  by_cases h2 : i = u
  ·subst h2
   rw [if_pos rfl, Nat.testBit_or, Nat.testBit_two_pow]
   congr 1
   rw [decide_eq_decide]
   constructor
   ·intro e; exact .inr ⟨rfl, e⟩
   ·rintro (⟨e, _⟩ | ⟨_, e⟩)
    ·exact absurd e h
    ·exact e
  ·rw [if_neg h2, decide_eq_false, Bool.or_false]
   rintro (⟨e, _⟩ | ⟨e, _⟩)
   ·exact h1 e.symm
   ·exact h2 e.symm
theorem VG.orP {m : Nat} {r : Nat → Nat} (vg : VG m r) {v u : Nat} (hv : v < m) (hu : u < m) (hne : v ≠ u) : VG m (orP r v u) := by
 refine ⟨vg.n1, vg.n7, fun i hi => ?_, fun i hi => ?_, fun i j hi hj => ?_⟩
 ·unfold Go.Proofs.YtfabbohijhjpcaaGreatDoor.orP
  split
  ·exact Nat.or_lt_two_pow (vg.lt _ hv) (Nat.pow_lt_pow_right (by omega) hu)
  ·split
   ·exact Nat.or_lt_two_pow (vg.lt _ hu) (Nat.pow_lt_pow_right (by omega) hv)
   ·exact vg.lt _ hi
 ·rw [orP_bit hne, vg.irr i hi, Bool.false_or]
  apply decide_eq_false
  rintro (⟨rfl, e⟩ | ⟨rfl, e⟩)
  ·exact hne e.symm
  ·exact hne e
 ·rw [orP_bit hne, orP_bit hne, vg.sym i j hi hj]
  congr 1
  rw [decide_eq_decide]
  constructor
  ·rintro (⟨a, b⟩ | ⟨a, b⟩)
   ·exact .inr ⟨b, a⟩
   ·exact .inl ⟨b, a⟩
  ·rintro (⟨a, b⟩ | ⟨a, b⟩)
   ·exact .inr ⟨b, a⟩
   ·exact .inl ⟨b, a⟩
theorem foldP_bit {i j : Nat} : ∀ (ps : List (Nat × Nat)) (r : Nat → Nat), (∀ p ∈ ps, p.1 ≠ p.2) → (foldP r ps i).testBit j = ((r i).testBit j || decide ((i, j) ∈ ps ∨ (j, i) ∈ ps)) := by
 intro ps
 induction ps with
 | nil => intro r _; simp [foldP]
 | cons p ps ih =>
   intro r h
   obtain ⟨v, u⟩ := p
   have e := ih (Go.Proofs.YtfabbohijhjpcaaGreatDoor.orP r v u) (fun q hq => h q (List.mem_cons_of_mem _ hq))
   have e0 : foldP r ((v, u) :: ps) = foldP (Go.Proofs.YtfabbohijhjpcaaGreatDoor.orP r v u) ps := rfl
   rw [e0, e, orP_bit (h (v, u) (List.mem_cons_self)), Bool.or_assoc]
   congr 1
   rw [← Bool.decide_or, decide_eq_decide, List.mem_cons, List.mem_cons]
   simp only [Prod.mk.injEq]
   constructor
   ·rintro ((⟨a, b⟩ | ⟨a, b⟩) | (a | a))
    ·exact .inl (.inl ⟨a.symm, b.symm⟩)
    ·exact .inr (.inl ⟨b.symm, a.symm⟩)
    ·exact .inl (.inr a)
    ·exact .inr (.inr a)
   ·rintro ((⟨a, b⟩ | a) | (⟨a, b⟩ | a))
    ·exact .inl (.inl ⟨a.symm, b.symm⟩)
    ·exact .inr (.inl a)
    ·exact .inl (.inr ⟨b.symm, a.symm⟩)
    ·exact .inr (.inr a)
theorem VG.foldP {m : Nat} : ∀ (ps : List (Nat × Nat)) {r : Nat → Nat}, VG m r → (∀ p ∈ ps, p.1 < m ∧ p.2 < m ∧ p.1 ≠ p.2) → VG m (foldP r ps) := by
 intro ps
 induction ps with
 | nil => intro r vg _; exact vg
 | cons p ps ih =>
   intro r vg h
   have h0 := h p (List.mem_cons_self)
   exact ih (vg.orP h0.1 h0.2.1 h0.2.2) (fun q hq => h q (List.mem_cons_of_mem _ hq))
def psR (L : List Nat) (a b : Nat) : List (Nat × Nat) := (List.range b).map fun j => (L.getD a 0, L.getD j 0)
def psN (L : List Nat) (a b : Nat) : List (Nat × Nat) := ((List.range a).flatMap fun i => psR L i i) ++ psR L a b
theorem mem_psN {L : List Nat} {a b : Nat} {p : Nat × Nat} : p ∈ psN L a b ↔ ∃ i j, ((i < a ∧ j < i) ∨ (i = a ∧ j < b)) ∧ p = (L.getD i 0, L.getD j 0) := by
 unfold psN psR
 simp only [List.mem_append, List.mem_flatMap, List.mem_map, List.mem_range]
 constructor
 ·rintro (⟨i, hi, j, hj, e⟩ | ⟨j, hj, e⟩)
  ·exact ⟨i, j, .inl ⟨hi, hj⟩, e.symm⟩
  ·exact ⟨a, j, .inr ⟨rfl, hj⟩, e.symm⟩
 ·rintro ⟨i, j, (⟨hi, hj⟩ | ⟨rfl, hj⟩), e⟩
  ·exact .inl ⟨i, hi, j, hj, e.symm⟩
  ·exact .inr ⟨j, hj, e.symm⟩
theorem listN_nodup (s : Nat) : (listN s).Nodup := List.Pairwise.filter _ List.nodup_range
theorem listN_getD {s j : Nat} (h : j < (listN s).length) : (listN s).getD j 0 = (listN s)[j] := by simp [List.getD, h]
theorem getD_ne {s i j : Nat} (hi : i < (listN s).length) (hj : j < (listN s).length) (h : i ≠ j) : (listN s).getD i 0 ≠ (listN s).getD j 0 := by
 rw [listN_getD hi, listN_getD hj]
 intro e
 exact h ((List.getElem_inj (listN_nodup s)).1 e)
theorem listN_lt {s m j : Nat} (hs : s < 2 ^ m) (hj : j < (listN s).length) : (listN s).getD j 0 < m := by
 rw [listN_getD hj]
 exact bit_lt hs (listN_at hj).2
theorem psN_in {s m a b : Nat} (hs : s < 2 ^ m) (h : a < (listN s).length ∧ b ≤ a ∨ a ≤ (listN s).length ∧ b = 0) : ∀ p ∈ psN (listN s) a b, p.1 < m ∧ p.2 < m ∧ p.1 ≠ p.2 := by
 intro p hp
 obtain ⟨i, j, hij, rfl⟩ := mem_psN.1 hp
 exact ⟨listN_lt hs (by omega), listN_lt hs (by omega), getD_ne (by omega) (by omega) (by omega)⟩
def fillN (r : Nat → Nat) (s : Nat) : Nat → Nat := fun i => if i ∈ listN s then r i ||| (s ^^^ 2 ^ i) else r i
theorem fold_fill (r : Nat → Nat) {s m : Nat} (hs : s < 2 ^ m) (hm : m ≤ 7) : foldP r (psN (listN s) (listN s).length 0) = fillN r s := by
 funext i
 apply Nat.eq_of_testBit_eq
 intro j
 have hlt7 : ∀ {v : Nat}, s.testBit v = true → v ∈ listN s := fun {v} hb => mem_listN.2 ⟨by have := bit_lt hs hb; omega, hb⟩
 rw [foldP_bit _ _ (fun p hp => (psN_in hs (.inr ⟨Nat.le_refl _, rfl⟩) p hp).2.2)]
 have hmem : ((i, j) ∈ psN (listN s) (listN s).length 0 ∨ (j, i) ∈ psN (listN s) (listN s).length 0) ↔ (i ∈ listN s ∧ j ∈ listN s ∧ i ≠ j) := by
  constructor
  ·rintro (h | h)
   ·obtain ⟨a, b, hab, e⟩ := mem_psN.1 h
    simp only [Prod.mk.injEq] at e
    obtain ⟨rfl, rfl⟩ := e
    have ha : a < (listN s).length := by omega
    have hb : b < (listN s).length := by omega
    refine ⟨?_, ?_, getD_ne ha hb (by omega)⟩
    ·rw [listN_getD ha]; exact List.getElem_mem _
    ·rw [listN_getD hb]; exact List.getElem_mem _
   ·obtain ⟨a, b, hab, e⟩ := mem_psN.1 h
    simp only [Prod.mk.injEq] at e
    obtain ⟨rfl, rfl⟩ := e
    have ha : a < (listN s).length := by omega
    have hb : b < (listN s).length := by omega
    refine ⟨?_, ?_, getD_ne hb ha (by omega)⟩
    ·rw [listN_getD hb]; exact List.getElem_mem _
    ·rw [listN_getD ha]; exact List.getElem_mem _
  ·rintro ⟨hi, hj, hne⟩
   obtain ⟨a, ha, rfl⟩ := List.getElem_of_mem hi
   obtain ⟨b, hb, rfl⟩ := List.getElem_of_mem hj
   have hab : a ≠ b := by rintro rfl; exact hne rfl
   by_cases hlt : b < a
   ·exact .inl (mem_psN.2 ⟨a, b, .inl ⟨ha, hlt⟩, by rw [listN_getD ha, listN_getD hb]⟩)
   ·exact .inr (mem_psN.2 ⟨b, a, .inl ⟨hb, by omega⟩, by rw [listN_getD ha, listN_getD hb]⟩)
 rw [decide_eq_decide.2 hmem]
 unfold fillN
 by_cases hi : i ∈ listN s
 ·rw [if_pos hi, Nat.testBit_or, Nat.testBit_xor, Nat.testBit_two_pow]
  congr 1
  have hib := (mem_listN.1 hi).2
  by_cases hij : i = j
  ·subst hij
   rw [hib]; simp
  ·rw [decide_eq_false hij, Bool.xor_false]
   cases hb : s.testBit j
   ·apply decide_eq_false
    rintro ⟨_, h2, _⟩
    have := (mem_listN.1 h2).2
    rw [hb] at this; cases this
   ·exact decide_eq_true ⟨hi, hlt7 hb, hij⟩
 ·rw [if_neg hi, decide_eq_false (fun h => hi h.1), Bool.or_false]
theorem VG.fillN {m : Nat} {r : Nat → Nat} (vg : VG m r) {s : Nat} (hs : s < 2 ^ m) : VG m (fillN r s) := by
 rw [← fold_fill r hs vg.n7]
 exact vg.foldP _ (psN_in hs (.inr ⟨Nat.le_refl _, rfl⟩))
def fl (r : Nat → Nat) (l : List Int) : Nat → Nat → Nat
 | 0 => r
 | k + 1 => fillN (fl r l k) (ltN (fl r l k) l (l.getD k 0))
theorem ltN_lt {m : Nat} {r : Nat → Nat} {l : List Int} {v : Int} (vg : VG m r) (h0 : 0 ≤ v) (h1 : v < m) : ltN r l v < 2 ^ m := Nat.lt_of_le_of_lt Nat.and_le_left (vg.lt _ (by omega))
theorem VG.fl {m : Nat} {r : Nat → Nat} {l : List Int} (vg : VG m r) (hV : VZ m l) : ∀ k, k ≤ l.length → VG m (fl r l k)
 | 0, _ => vg
 | k + 1, hk => by
   have ih := VG.fl vg hV k (by omega)
   have := hV.2 _ (getD_mem (l := l) (k := k) (by omega))
   exact ih.fillN (ltN_lt ih this.1 this.2)
end Go.Proofs.YtfabbohijhjpcaaGreatDoor
