/-
  Several texts in one.
-/
import Derived.Test.YtppkokgiojcgbaaGreatDoorQxLater
import Derived.Test.YtppkokgiojcgbaaGreatDoorQxGB
import Derived.Test.YtppkokgiojcgbaaGreatDoorQxGC
import Derived.Test.YtppkokgiojcgbaaGreatDoorQxFmS
/-
-/
namespace Go.Proofs.YtppkokgiojcgbaaGreatDoor
open Go.RowKit
def orP (r : Nat → Nat) (v u : Nat) : Nat → Nat := fun i => if i = v then r v ||| 2 ^ u else if i = u then r u ||| 2 ^ v else r i
def foldP (r : Nat → Nat) (ps : List (Nat × Nat)) : Nat → Nat := ps.foldl (fun r p => orP r p.1 p.2) r
theorem orP_bit {r : Nat → Nat} {v u i j : Nat} (h : v ≠ u) : (orP r v u i).testBit j = ((r i).testBit j || decide ((v = i ∧ u = j) ∨ (u = i ∧ v = j))) := by
 unfold orP
 by_cases h1 : i = v
 ·subst h1
  rw [if_pos rfl, Nat.testBit_or, Nat.testBit_two_pow]
  congr 1
  rw [decide_eq_decide]
  constructor
  ·intro e; exact .inl ⟨rfl, e⟩
  ·rintro (⟨_, e⟩ | ⟨e, _⟩)
   ·exact e
   ·exact absurd e.symm h
 ·rw [if_neg h1]
  by_cases h2 : i = u
  ·subst h2
   rw [if_pos rfl, Nat.testBit_or, Nat.testBit_two_pow]
   congr 1
   rw [decide_eq_decide]
   constructor
   ·intro e; exact .inr ⟨rfl, e⟩
   ·rintro (⟨e, _⟩ | ⟨_, e⟩)
    ·exact absurd e h
    ·exact e
  ·rw [if_neg h2, decide_eq_false, Bool.or_false]
   rintro (⟨e, _⟩ | ⟨e, _⟩)
   ·exact h1 e.symm
   ·exact h2 e.symm
theorem VG.orP {m : Nat} {r : Nat → Nat} (vg : VG m r) {v u : Nat} (hv : v < m) (hu : u < m) (hne : v ≠ u) : VG m (orP r v u) := by
 refine ⟨vg.n1, vg.n7, fun i hi => ?_, fun i hi => ?_, fun i j hi hj => ?_⟩
 ·unfold Go.Proofs.YtppkokgiojcgbaaGreatDoor.orP
  split
  ·exact Nat.or_lt_two_pow (vg.lt _ hv) (Nat.pow_lt_pow_right (by omega) hu)
  ·split
   ·exact Nat.or_lt_two_pow (vg.lt _ hu) (Nat.pow_lt_pow_right (by omega) hv)
   ·exact vg.lt _ hi
 ·rw [orP_bit hne, vg.irr i hi, Bool.false_or]
  apply decide_eq_false
  rintro (⟨rfl, e⟩ | ⟨rfl, e⟩)
  ·exact hne e.symm
  ·exact hne e
 ·rw [orP_bit hne, orP_bit hne, vg.sym i j hi hj]
  congr 1
  rw [decide_eq_decide]
  constructor
  ·rintro (⟨a, b⟩ | ⟨a, b⟩)
   ·exact .inr ⟨b, a⟩
   ·exact .inl ⟨b, a⟩
  ·rintro (⟨a, b⟩ | ⟨a, b⟩)
   ·exact .inr ⟨b, a⟩
   ·exact .inl ⟨b, a⟩
theorem foldP_one (r : Nat → Nat) (ps : List (Nat × Nat)) (v u : Nat) : foldP r (ps ++ [(v, u)]) = orP (foldP r ps) v u := by unfold foldP; rw [List.foldl_append]; rfl
theorem foldP_bit {i j : Nat} : ∀ (ps : List (Nat × Nat)) (r : Nat → Nat), (∀ p ∈ ps, p.1 ≠ p.2) → (foldP r ps i).testBit j = ((r i).testBit j || decide ((i, j) ∈ ps ∨ (j, i) ∈ ps)) := by
 intro ps
 induction ps with
 | nil => intro r _; simp [foldP]
 | cons p ps ih =>
   intro r h
   obtain ⟨v, u⟩ := p
   have e := ih (Go.Proofs.YtppkokgiojcgbaaGreatDoor.orP r v u) (fun q hq => h q (List.mem_cons_of_mem _ hq))
   have e0 : foldP r ((v, u) :: ps) = foldP (Go.Proofs.YtppkokgiojcgbaaGreatDoor.orP r v u) ps := rfl
   rw [e0, e, orP_bit (h (v, u) (List.mem_cons_self)), Bool.or_assoc]
   congr 1
   rw [← Bool.decide_or, decide_eq_decide, List.mem_cons, List.mem_cons]
   simp only [Prod.mk.injEq]
   constructor
   ·rintro ((⟨a, b⟩ | ⟨a, b⟩) | (a | a))
    ·exact .inl (.inl ⟨a.symm, b.symm⟩)
    ·exact .inr (.inl ⟨b.symm, a.symm⟩)
    ·exact .inl (.inr a)
    ·exact .inr (.inr a)
   ·rintro ((⟨a, b⟩ | a) | (⟨a, b⟩ | a))
    ·exact .inl (.inl ⟨a.symm, b.symm⟩)
    ·exact .inr (.inl a)
    ·exact .inl (.inr ⟨b.symm, a.symm⟩)
    ·exact .inr (.inr a)
theorem VG.foldP {m : Nat} : ∀ (ps : List (Nat × Nat)) {r : Nat → Nat}, VG m r → (∀ p ∈ ps, p.1 < m ∧ p.2 < m ∧ p.1 ≠ p.2) → VG m (foldP r ps) := by
 intro ps
 induction ps with
 | nil => intro r vg _; exact vg
 | cons p ps ih =>
   intro r vg h
   have h0 := h p (List.mem_cons_self)
   exact ih (vg.orP h0.1 h0.2.1 h0.2.2) (fun q hq => h q (List.mem_cons_of_mem _ hq))
def psR (L : List Nat) (a b : Nat) : List (Nat × Nat) := (List.range b).map fun j => (L.getD a 0, L.getD j 0)
def psN (L : List Nat) (a b : Nat) : List (Nat × Nat) := ((List.range a).flatMap fun i => psR L i i) ++ psR L a b
theorem psN_step (L : List Nat) (a b : Nat) : psN L a (b + 1) = psN L a b ++ [(L.getD a 0, L.getD b 0)] := by
 unfold psN psR; rw [List.range_succ, List.map_append, List.append_assoc]; rfl
theorem psN_row (L : List Nat) (a : Nat) : psN L (a + 1) 0 = psN L a a := by
 unfold psN; rw [List.range_succ, List.flatMap_append]; simp [psR]
theorem mem_psN {L : List Nat} {a b : Nat} {p : Nat × Nat} : p ∈ psN L a b ↔ ∃ i j, ((i < a ∧ j < i) ∨ (i = a ∧ j < b)) ∧ p = (L.getD i 0, L.getD j 0) := by
 unfold psN psR
 simp only [List.mem_append, List.mem_flatMap, List.mem_map, List.mem_range]
 constructor
 ·rintro (⟨i, hi, j, hj, e⟩ | ⟨j, hj, e⟩)
  ·exact ⟨i, j, .inl ⟨hi, hj⟩, e.symm⟩
  ·exact ⟨a, j, .inr ⟨rfl, hj⟩, e.symm⟩
 ·rintro ⟨i, j, (⟨hi, hj⟩ | ⟨rfl, hj⟩), e⟩
  ·exact .inl ⟨i, hi, j, hj, e.symm⟩
  ·exact .inr ⟨j, hj, e.symm⟩
theorem listN_nodup (s : Nat) : (listN s).Nodup := List.Pairwise.filter _ List.nodup_range
theorem listN_getD {s j : Nat} (h : j < (listN s).length) : (listN s).getD j 0 = (listN s)[j] := by simp [List.getD, h]
theorem getD_ne {s i j : Nat} (hi : i < (listN s).length) (hj : j < (listN s).length) (h : i ≠ j) : (listN s).getD i 0 ≠ (listN s).getD j 0 := by
 rw [listN_getD hi, listN_getD hj]
 intro e
 exact h ((List.getElem_inj (listN_nodup s)).1 e)
theorem listN_lt {s m j : Nat} (hs : s < 2 ^ m) (hj : j < (listN s).length) : (listN s).getD j 0 < m := by
 rw [listN_getD hj]
 exact bit_lt hs (listN_at hj).2
theorem psN_in {s m a b : Nat} (hs : s < 2 ^ m) (h : a < (listN s).length ∧ b ≤ a ∨ a ≤ (listN s).length ∧ b = 0) : ∀ p ∈ psN (listN s) a b, p.1 < m ∧ p.2 < m ∧ p.1 ≠ p.2 := by
 intro p hp
 obtain ⟨i, j, hij, rfl⟩ := mem_psN.1 hp
 exact ⟨listN_lt hs (by omega), listN_lt hs (by omega), getD_ne (by omega) (by omega) (by omega)⟩
def fillN (r : Nat → Nat) (s : Nat) : Nat → Nat := fun i => if i ∈ listN s then r i ||| (s ^^^ 2 ^ i) else r i
theorem fold_fill (r : Nat → Nat) {s m : Nat} (hs : s < 2 ^ m) (hm : m ≤ 7) : foldP r (psN (listN s) (listN s).length 0) = fillN r s := by
 funext i
 apply Nat.eq_of_testBit_eq
 intro j
 have hlt7 : ∀ {v : Nat}, s.testBit v = true → v ∈ listN s := fun {v} hb => mem_listN.2 ⟨by have := bit_lt hs hb; omega, hb⟩
 rw [foldP_bit _ _ (fun p hp => (psN_in hs (.inr ⟨Nat.le_refl _, rfl⟩) p hp).2.2)]
 have hmem : ((i, j) ∈ psN (listN s) (listN s).length 0 ∨ (j, i) ∈ psN (listN s) (listN s).length 0) ↔ (i ∈ listN s ∧ j ∈ listN s ∧ i ≠ j) := by
  constructor
  ·rintro (h | h)
   ·obtain ⟨a, b, hab, e⟩ := mem_psN.1 h
    simp only [Prod.mk.injEq] at e
    obtain ⟨rfl, rfl⟩ := e
    have ha : a < (listN s).length := by omega
    have hb : b < (listN s).length := by omega
    refine ⟨?_, ?_, getD_ne ha hb (by omega)⟩
    ·rw [listN_getD ha]; exact List.getElem_mem _
    ·rw [listN_getD hb]; exact List.getElem_mem _
   ·obtain ⟨a, b, hab, e⟩ := mem_psN.1 h
    simp only [Prod.mk.injEq] at e
    obtain ⟨rfl, rfl⟩ := e
    have ha : a < (listN s).length := by omega
    have hb : b < (listN s).length := by omega
    refine ⟨?_, ?_, getD_ne hb ha (by omega)⟩
    ·rw [listN_getD hb]; exact List.getElem_mem _
    ·rw [listN_getD ha]; exact List.getElem_mem _
  ·rintro ⟨hi, hj, hne⟩
   obtain ⟨a, ha, rfl⟩ := List.getElem_of_mem hi
   obtain ⟨b, hb, rfl⟩ := List.getElem_of_mem hj
   have hab : a ≠ b := by rintro rfl; exact hne rfl
   by_cases hlt : b < a
   ·exact .inl (mem_psN.2 ⟨a, b, .inl ⟨ha, hlt⟩, by rw [listN_getD ha, listN_getD hb]⟩)
   ·exact .inr (mem_psN.2 ⟨b, a, .inl ⟨hb, by omega⟩, by rw [listN_getD ha, listN_getD hb]⟩)
 rw [decide_eq_decide.2 hmem]
 unfold fillN
 by_cases hi : i ∈ listN s
 ·rw [if_pos hi, Nat.testBit_or, Nat.testBit_xor, Nat.testBit_two_pow]
  congr 1
  have hib := (mem_listN.1 hi).2
  by_cases hij : i = j
  ·subst hij
   rw [hib]; simp
  ·rw [decide_eq_false hij, Bool.xor_false]
   cases hb : s.testBit j
   ·apply decide_eq_false
    rintro ⟨_, h2, _⟩
    have := (mem_listN.1 h2).2
    rw [hb] at this; cases this
   ·exact decide_eq_true ⟨hi, hlt7 hb, hij⟩
 ·rw [if_neg hi, decide_eq_false (fun h => hi h.1), Bool.or_false]
theorem VG.fillN {m : Nat} {r : Nat → Nat} (vg : VG m r) {s : Nat} (hs : s < 2 ^ m) : VG m (fillN r s) := by
 rw [← fold_fill r hs vg.n7]
 exact vg.foldP _ (psN_in hs (.inr ⟨Nat.le_refl _, rfl⟩))
def filT (r : Nat → Nat) (s t : Nat) : Nat → Nat := fun i => if i ∈ (listN s).take t then r i ||| (s ^^^ 2 ^ i) else r i
theorem filT_zero (r : Nat → Nat) (s : Nat) : filT r s 0 = r := by funext i; simp [filT]
theorem filT_all (r : Nat → Nat) (s : Nat) : filT r s (listN s).length = fillN r s := by funext i; simp [filT, fillN]
theorem filT_at {r : Nat → Nat} {s t : Nat} (h : t < (listN s).length) : filT r s t ((listN s).getD t 0) = r ((listN s).getD t 0) := by
 unfold filT
 rw [if_neg]
 intro hm
 rw [List.mem_take_iff_getElem] at hm
 obtain ⟨i, hi, e⟩ := hm
 rw [listN_getD h] at e
 have := (List.getElem_inj (listN_nodup s)).1 e
 omega
theorem filT_step {r : Nat → Nat} {s t : Nat} (h : t < (listN s).length) (j : Nat) : filT r s (t + 1) j = if j = (listN s).getD t 0 then filT r s t ((listN s).getD t 0) ||| (s ^^^ 2 ^ ((listN s).getD t 0)) else filT r s t j := by
 rw [filT_at h]
 have e : (listN s).take (t + 1) = (listN s).take t ++ [(listN s).getD t 0] := by rw [listN_getD h]; exact List.take_succ_eq_append_getElem h
 unfold filT
 rw [e]
 by_cases hj : j = (listN s).getD t 0
 ·rw [if_pos hj, hj, if_pos (by simp)]
 ·rw [if_neg hj]
  simp only [List.mem_append, List.mem_singleton, hj, or_false]
theorem fil_step_val {s w : Nat} (h : s.testBit w = true) : s ^^^ (s &&& 2 ^ w) = s ^^^ 2 ^ w := by
 congr 1
 apply Nat.eq_of_testBit_eq
 intro i
 rw [Nat.testBit_and, Nat.testBit_two_pow]
 by_cases hi : w = i
 ·subst hi; simp [h]
 ·simp [hi]
def fl (r : Nat → Nat) (l : List Int) : Nat → Nat → Nat
 | 0 => r
 | k + 1 => fillN (fl r l k) (ltN (fl r l k) l (l.getD k 0))
theorem ltN_lt {m : Nat} {r : Nat → Nat} {l : List Int} {v : Int} (vg : VG m r) (h0 : 0 ≤ v) (h1 : v < m) : ltN r l v < 2 ^ m := Nat.lt_of_le_of_lt Nat.and_le_left (vg.lt _ (by omega))
theorem VG.fl {m : Nat} {r : Nat → Nat} {l : List Int} (vg : VG m r) (hV : VZ m l) : ∀ k, k ≤ l.length → VG m (fl r l k)
 | 0, _ => vg
 | k + 1, hk => by
   have ih := VG.fl vg hV k (by omega)
   have := hV.2 _ (getD_mem (l := l) (k := k) (by omega))
   exact ih.fillN (ltN_lt ih this.1 this.2)
theorem orB_yes {m : Nat} {x : Nat → Int} {l : List Int} (h : okB (m : Int) m x = true) (hV : VZ m l) (hl : l.length = m) : orB (m : Int) m x l = true := by
 unfold orB vrB
 rw [h, vzB_iff.2 hV, decide_eq_true hl]; rfl
noncomputable def fofL (sz : Int) (m : Nat) (x : Nat → Int) (l : List Int) : List (List Int) := if orB sz m x l = true then (edAll (fun v => ((fl (rw_ x) l l.length v : Nat) : Int)) m).filter (pOpt x) else []
theorem fofL_no {sz : Int} {m : Nat} {x : Nat → Int} {l : List Int} (h : orB sz m x l = false) : fofL sz m x l = [] := by unfold fofL; rw [h]; rfl
theorem fofL_yes {m : Nat} {x : Nat → Int} {l : List Int} (h : orB (m : Int) m x l = true) : (edgesL (m : Int) m (fun v => ((fl (rw_ x) l l.length v : Nat) : Int))).filter (pOpt x) = fofL (m : Int) m x l := by
 obtain ⟨ho, hV, _⟩ := orB_parts h
 have vg := (okB_vg ho).1.fl hV l.length (Nat.le_refl _)
 unfold fofL edgesL
 rw [if_pos h, if_pos (okB_yes ⟨_, rfl, vg, fun _ _ => rfl⟩)]
end Go.Proofs.YtppkokgiojcgbaaGreatDoor

/-
-/
namespace Go.Proofs.YtppkokgiojcgbaaGreatDoor
open Go.RowKit
theorem aeX_or {m a b j : Nat} {r : Nat → Nat} (vg : VG m r) (ha : a < m) (hb : b < m) (hne : a ≠ b) :
 aeX (m : Int) m (fun v => (r v : Int)) (a : Int) (b : Int) j = ((orP r a b j : Nat) : Int) := by
 have hok : okB (m : Int) m (fun v => (r v : Int)) = true := okB_yes ⟨r, rfl, vg, fun _ _ => rfl⟩
 have hd : decide ((0 : Int) ≤ (a : Int) ∧ (a : Int) < (m : Int) ∧ (0 : Int) ≤ (b : Int) ∧ (b : Int) < (m : Int) ∧ (a : Int) ≠ (b : Int)) = true := decide_eq_true ⟨by omega, by omega, by omega, by omega, by omega⟩
 have hs := vg.sym a b ha hb
 cases hbit : (r a).testBit b
 ·have hB : aeB (m : Int) m (fun v => (r v : Int)) (a : Int) (b : Int) = true := by
   unfold aeB; rw [hok, hd]; simp [hbit]
  unfold aeX
  rw [if_pos hB]
  simp only [Int.toNat_natCast]
  have h1 : r a ^^^ 2 ^ b = r a ||| 2 ^ b := (add_pow_bit hbit).symm.trans (or_of_add hbit)
  have h2 : r b ^^^ 2 ^ a = r b ||| 2 ^ a := by
   rw [hbit] at hs
   exact (add_pow_bit hs.symm).symm.trans (or_of_add hs.symm)
  unfold addN orP
  by_cases e1 : j = a
  ·subst e1; rw [if_pos rfl, if_pos rfl, h1]
  ·rw [if_neg e1, if_neg e1]
   by_cases e2 : j = b
   ·subst e2; rw [if_pos rfl, if_pos rfl, h2]
   ·rw [if_neg e2, if_neg e2]
 ·have hB : aeB (m : Int) m (fun v => (r v : Int)) (a : Int) (b : Int) = false := by
   unfold aeB; rw [hok, hd]; simp [hbit]
  rw [aeX_no hB]
  have key : ∀ {y i : Nat}, y.testBit i = true → y ||| 2 ^ i = y := fun {y i} h => by
   apply Nat.eq_of_testBit_eq
   intro k
   rw [Nat.testBit_or, Nat.testBit_two_pow]
   by_cases hk : i = k
   ·subst hk; simp [h]
   ·simp [hk]
  rw [hbit] at hs
  unfold orP
  by_cases e1 : j = a
  ·subst e1; rw [if_pos rfl, key hbit]
  ·rw [if_neg e1]
   by_cases e2 : j = b
   ·subst e2; rw [if_pos rfl, key hs.symm]
   ·rw [if_neg e2]
structure OG (lo : Nat) (w : World) (A : Option Addr) (m c : Nat) (r : Nat → Nat) : Prop where
 own : Own w lo w.heap.size 3 1 A m c (fun j => .int .i64 (r j : Nat))
section
variable {w w' : World} {A : Option Addr} {c lo m : Nat} {r : Nat → Nat}
theorem OG.keep (h : OG lo w A m c r) (hb : Below w.heap.size w w') : OG lo w' A m c r := ⟨(h.own.keepB hb (Nat.le_refl _)).mono (Nat.le_refl _) hb.size⟩
theorem OG.gv (h : OG lo w A m c r) (vg : VG m r) : GV w A m c r := ⟨vg, h.own.rd⟩
theorem OG.drew (h : OG lo w A m c r) : OG lo w.drew A m c r := ⟨h.own.drew⟩
theorem ON.set {q : Nat} {AL : Option Addr} {cL : Nat} {L : List Nat} (h : ON (q + 1) w AL cL L) (x y : Value) : ON (q + 1) ((w.setCell ⟨q, 0, none⟩ x).setCell ⟨q, 1, none⟩ y) AL cL L :=
 ⟨(h.own.keep (fr2 w q x y) (.inr (Nat.le_refl _))).mono (Nat.le_refl _) (fr2 w q x y).size⟩
end
theorem LaterNeighbours_sv {A : Option Addr} {m c : Nat} {r : Nat → Nat} {Al : Option Addr} {n cl : Nat} {l : List Int} {w : World} (h : GV w A m c r) (hl : LI w Al n cl l) (hV : VZ m l) (hlen : l.length = m) {v : Int} (hv : v ∈ l) :
 Calls Tryz.prog 209 #[.agg #[.int .i64 m, .slice A m c], .slice Al n cl, .int .i64 v] w fun e w' => e = .returned (.int .i64 (ltN r l v : Nat)) ∧ Below w.heap.size w w' := by
 have := LaterNeighbours_s (m : Int) A m c (fun v => (r v : Int)) Al n cl l v w ⟨h.rd⟩ hl (by have := h.vg.n7; omega) (by have := h.vg.n7; rw [hl.len]; omega)
 rwa [ltZ_yes (orB_yes h.ok hV hlen) (hV.2 _ hv), rw_cast] at this
theorem LaterNeighbours_iv {A : Option Addr} {m c : Nat} {r : Nat → Nat} {Al : Option Addr} {n cl : Nat} {l : List Int} {w : World} (h : GV w A m c r) (hl : LI w Al n cl l) (hV : VZ m l) (hlen : l.length = m) {v : Int} (hv : v ∈ l) :
 Calls Tryz.prog 163 #[.agg #[.int .i64 m, .slice A m c], .slice Al n cl, .int .i64 v] w fun e w' => e = .returned (.int .i64 (ltN r l v : Nat)) ∧ Below w.heap.size w w' := by
 have := LaterNeighbours_i (m : Int) A m c (fun v => (r v : Int)) Al n cl l v w ⟨h.rd⟩ hl (by have := h.vg.n7; omega) (by have := h.vg.n7; rw [hl.len]; omega)
 rwa [ltZ_yes (orB_yes h.ok hV hlen) (hV.2 _ hv), rw_cast] at this
set_option maxRecDepth 100000 in
set_option maxHeartbeats 3200000 in
theorem l6Filled_s (A : Option Addr) (m c : Nat) (r : Nat → Nat) (Al : Option Addr) (cl : Nat) (l : List Int) (w : World) (h : GV w A m c r) (hl : LI w Al m cl l) (hV : VZ m l) (hlen : l.length = m) :
 Calls Tryz.prog 156 #[.agg #[.int .i64 m, .slice A m c], .slice Al m cl] w fun e w' => ∃ A' c', e = .returned (.agg #[.int .i64 m, .slice A' m c']) ∧ OG w.heap.size w' A' m c' (fl r l l.length) ∧ Below w.heap.size w w' := by
 obtain ⟨W, hW⟩ : ∃ W : World, W = ((w.alloc (Obj.cells #[Value.int IntKind.i64 m, Value.slice A m c] 29)).alloc (Obj.cells #[Value.int IntKind.i64 0, Value.slice none 0 0] 29)) := ⟨_, rfl⟩
 have HB : Hid (From w W) := by rw [hW]; exact ((From.alloc _ _).alloc_ _)
 have HZ : Hid (w.heap.size + 2 = W.heap.size) := by rw [hW]; simp [Hid]
 have HC : Hid (GC W (w.heap.size + 1) 0 none 0 0) := by rw [hW]; constructor <;> simp [go_sem]
 have HG : Hid (GC W w.heap.size m A m c) := by rw [hW]; constructor <;> simp [go_sem]
 have HK : Hid (GV W A m c r) := h.keep HB.out.below
 have HL := Lib.hid hl
 have HV := Lib.hid hV
 have HN := Lib.hid hlen
 have vg := h.vg
 have hm1 := vg.n1
 have hm7 := vg.n7
 have HVG := Lib.hid vg
 have HW := Lib.hid hW
 have e0 := HG.out.c0
 have e1 := HG.out.c1
 clear hW h hl hV hlen vg
 go_enter Tryz.func156, Tryz.ntmps156
 go_wp2_with fail
 rw [← HW.out]
 clear HW
 refine (l2Copy_any m A m c _ W W.heap.size HK.out.rd (Nat.le_refl _) (by omega)).mono ?_
 rintro e wq ⟨A', c', rfl, hO, hb1⟩
 clear e0 e1
 have z1 := hb1.size
 replace HB := Lib.hid (HB.out.keep hb1)
 replace HC := Lib.hid (HC.out.keep hb1)
 have HO : Hid (OG (w.heap.size + 2) wq A' m c' r) := ⟨hO.mono (by have := HZ.out; omega) (Nat.le_refl _)⟩
 have zw : w.heap.size + 2 ≤ wq.heap.size := by have := HZ.out; omega
 have hqw : w.heap.size ≤ wq.heap.size := by omega
 clear hO hb1 HK HG z1
 go_wp2
 go_loopw [6] (fun i wr => ∃ (k : Nat) (A4 : Option Addr) (c4 : Nat), k ≤ m ∧ i = .int .i64 k ∧ Hid (GC wr wq.heap.size m A4 m c4) ∧ Hid (OG (w.heap.size + 2) wr A4 m c4 (fl r l k)) ∧ Hid (From wq wr)) (fun i _ => m - (intOf i).toNat)
 case atStart => exact ⟨0, A', c', Nat.zero_le _, rfl, GC.new _ _ _ _ _, HO.out.keep (From.alloc wq _).below, From.alloc _ _⟩
 case round =>
  obtain ⟨k, A4, c4, hk, rfl, HQ, HY, HF⟩ := hrel
  have zr := HF.out.below.size
  by_cases hlt : k < m
  ·have HFw : Hid (From w wr) := HB.out.keep HF.out.below
   have HLr := Lib.hid (HL.out.keep HFw.out.below)
   obtain ⟨b, o, rfl⟩ := HLr.out.addr (by omega)
   have hkl : k < l.length := by rw [HN.out]; exact hlt
   have hmem := getD_mem hkl
   have hvz := HV.out.2 _ hmem
   have Hmem := Lib.hid hmem
   have HVk : Hid (VG m (fl r l k)) := HVG.out.fl HV.out k (by omega)
   have hs : ltN (fl r l k) l (l.getD k 0) < 2 ^ m := ltN_lt HVk.out hvz.1 hvz.2
   have p0 := HLr.out.at hlt
   have HP : Hid (CL wr b (o + k) (.int .i64 (l.getD k 0))) := ⟨p0⟩
   have Hfl : Hid (fillN (fl r l k) (ltN (fl r l k) l (l.getD k 0)) = fl r l (k + 1)) := rfl
   obtain ⟨v, hv⟩ : ∃ v, v = l.getD k 0 := ⟨_, rfl⟩
   rw [← hv] at p0 HP Hfl hs Hmem
   obtain ⟨s, hse⟩ : ∃ s, s = ltN (fl r l k) l v := ⟨_, rfl⟩
   rw [← hse] at Hfl hs
   have Hse := Lib.hid hse
   have h2m := two_pow_le hm7
   have hs128 : s < 128 := by omega
   have i1 : (k : Int) < (m : Int) := by omega
   clear hv hse p0 hmem hvz
   have KL : Hid (∀ z : World, Below wr.heap.size wr z → Calls Tryz.prog 209 #[.agg #[.int .i64 m, .slice A4 m c4], .slice (some ⟨b, o, none⟩) m cl, .int .i64 v] z fun e w' => e = .returned (.int .i64 (s : Nat)) ∧ Below z.heap.size z w') := fun z hz => by
    have := LaterNeighbours_sv ((HY.out.keep hz).gv HVk.out) (HLr.out.keep hz) HV.out HN.out Hmem.out
    rwa [← Hse.out] at this
   have zq := HQ.out.lt
   obtain ⟨L, hL⟩ : ∃ L, L = listN s := ⟨_, rfl⟩
   have HLL := Lib.hid hL
   clear hL
   have KO : Hid (∀ z : World, Below wr.heap.size wr z → Calls Tryz.prog 101 #[.int .i64 s] z fun e w' => ∃ A c, e = .returned (.slice A L.length c) ∧ ON (wq.heap.size + 1) w' A c L ∧ Below z.heap.size z w') := fun z hz => by
    rw [HLL.out]
    exact (ListOf_sv s hs128 z).mono fun _ _ ⟨A, c, h1, h2, h3⟩ => ⟨A, c, h1, h2.mono (by have := hz.size; omega), h3⟩
   have q0 := HQ.out.c0
   have q1 := HQ.out.c1
   have p0 := HP.out.c
   have HSC : Hid (∀ z : World, Below wr.heap.size wr z → (Below wr.heap.size wr z ∧ z.cell? ⟨wq.heap.size, 0, none⟩ = some (.int .i64 m) ∧ z.cell? ⟨wq.heap.size, 1, none⟩ = some (.slice A4 m c4) ∧ z.cell? ⟨b, o + k, none⟩ = some (.int .i64 v))) := fun z hz => ⟨hz, up_ hz q0, up_ hz q1, up_ hz p0⟩
   have HZ0 : Hid (Below wr.heap.size wr wr.drew) := (Below.refl _ _).drew
   have HS1 := Lib.hid (HSC.out _ HZ0.out)
   have KR1 : Hid (∀ z : World, Below wr.heap.size wr z → _) := fun z hz => KL.out z hz
   have KR2 : Hid (∀ z : World, Below wr.heap.size wr z → _) := fun z hz => KO.out z hz
   go_wp2
   go_region_held3 (fun z => Below wr.heap.size wr z ∧ z.cell? ⟨wq.heap.size, 0, none⟩ = some (.int .i64 m) ∧ z.cell? ⟨wq.heap.size, 1, none⟩ = some (.slice A4 m c4) ∧ z.cell? ⟨b, o + k, none⟩ = some (.int .i64 v))
    (first | exact HS1.out | assumption | exact HSC.out _ hz2 | exact HSC.out _ hz1 | fail)
    (first | (go_at_call 209; ((with_reducible refine (KR1.out _ HZ0.out).mono ?_); rintro e w1 ⟨rfl, hb1⟩; have hz1 := bl_trans HZ0.out hb1)) | (go_at_call 101; ((with_reducible refine (KR2.out _ hz1).mono ?_); rintro e w2 ⟨AL, cL, rfl, hON, hb2⟩; have hz2 := bl_trans hz1 hb2)))
   clear q0 q1 p0
   replace HQ := Lib.hid (HQ.out.keep hz2)
   replace HY := Lib.hid (HY.out.keep hz2)
   replace HFw := Lib.hid (HFw.out.keep hz2)
   replace HLr := Lib.hid (HLr.out.keep hz2)
   replace HP := Lib.hid (HP.out.keep hz2)
   replace HF := Lib.hid (HF.out.keep hz2)
   clear hb1 hz1 hb2 hz2 HSC HZ0 HS1 KR1 KR2
   have q0 := HQ.out.c0
   have q1 := HQ.out.c1
   have p0 := HP.out.c
   obtain ⟨R, hR⟩ : ∃ R, R = fl r l k := ⟨_, rfl⟩
   rw [← hR] at HVk Hfl HY
   have hfold := fold_fill R hs hm7
   rw [← HLL.out, Hfl.out] at hfold
   have Hfold := Lib.hid hfold
   have hL7 : L.length ≤ 7 := by rw [HLL.out]; exact listN_len s
   have HON := Lib.hid hON
   have Hs := Lib.hid hs
   have zw3 := HF.out.below.size
   have HFk := HF
   clear hR hfold hON hs Hse KL KO HP HLr HFw p0 q0 q1 hkl Hmem hs128
   go_wp2
   go_loopw [8] (fun i wr => ∃ (a : Nat) (A5 : Option Addr) (c5 : Nat), a ≤ L.length ∧ i = .int .i64 a ∧ Hid (GC wr wq.heap.size m A5 m c5) ∧ Hid (OG (w.heap.size + 2) wr A5 m c5 (foldP R (psN L a 0))) ∧ Hid (ON (wq.heap.size + 1) wr AL cL L) ∧ Hid (From wq wr)) (fun i _ => L.length - (intOf i).toNat)
   case atStart => exact ⟨0, A4, c4, Nat.zero_le _, rfl, HQ, HY, HON, HF⟩
   case round =>
    clear HQ HY HON HF HFk zw3
    obtain ⟨a, A5, c5, ha, rfl, HQ, HY, HON, HF⟩ := hrel
    by_cases hal : a < L.length
    ·have i2 : (a : Int) < (L.length : Int) := by omega
     go_wp2
     go_loopw [9] (fun i wr => ∃ (b : Nat) (A5 : Option Addr) (c5 : Nat), b ≤ a ∧ i = .int .i64 b ∧ Hid (GC wr wq.heap.size m A5 m c5) ∧ Hid (OG (w.heap.size + 2) wr A5 m c5 (foldP R (psN L a b))) ∧ Hid (ON (wq.heap.size + 1) wr AL cL L) ∧ Hid (From wq wr)) (fun i _ => a - (intOf i).toNat)
     case atStart => exact ⟨0, A5, c5, Nat.zero_le _, rfl, HQ, HY, HON, HF⟩
     case round =>
      clear HQ HY HON HF
      obtain ⟨j, A5, c5, hj, rfl, HQ, HY, HON, HF⟩ := hrel
      by_cases hja : j < a
      ·obtain ⟨va, hva⟩ : ∃ va, va = L.getD a 0 := ⟨_, rfl⟩
       obtain ⟨vb, hvb⟩ : ∃ vb, vb = L.getD j 0 := ⟨_, rfl⟩
       have hjl : j < L.length := by omega
       obtain ⟨bL, oL, rfl⟩ := HON.out.ln.addr (by omega)
       have d2 : wr.drew.cell? ⟨bL, oL + a, none⟩ = some (.int .i64 (va : Nat)) := by rw [hva]; have := HON.out.ln.at hal; simpa [List.getD, hal] using this
       have d3 : wr.drew.cell? ⟨bL, oL + j, none⟩ = some (.int .i64 (vb : Nat)) := by rw [hvb]; have := HON.out.ln.at hjl; simpa [List.getD, hjl] using this
       have d0 : wr.drew.cell? ⟨wq.heap.size, 0, none⟩ = some (.int .i64 m) := HQ.out.c0
       have d1 : wr.drew.cell? ⟨wq.heap.size, 1, none⟩ = some (.slice A5 m c5) := HQ.out.c1
       have hvam : va < m := by rw [hva, HLL.out]; exact listN_lt Hs.out (by rw [← HLL.out]; exact hal)
       have hvbm : vb < m := by rw [hvb, HLL.out]; exact listN_lt Hs.out (by rw [← HLL.out]; exact hjl)
       have hne : va ≠ vb := by rw [hva, hvb, HLL.out]; exact getD_ne (by rw [← HLL.out]; exact hal) (by rw [← HLL.out]; exact hjl) (by omega)
       have hvg : VG m (foldP R (psN L a j)) := HVk.out.foldP _ (by rw [HLL.out]; exact psN_in Hs.out (.inl ⟨by rw [← HLL.out]; exact hal, by omega⟩))
       have Hnext : Hid (foldP R (psN L a (j + 1)) = orP (foldP R (psN L a j)) va vb) := by show _ = _; rw [psN_step, foldP_one, hva, hvb]
       have i3 : (j : Int) < (a : Int) := by omega
       have i4 : (j : Int) < (L.length : Int) := by omega
       have KA : Hid (Calls Tryz.prog 122 #[.agg #[.int .i64 m, .slice A5 m c5], .int .i64 va, .int .i64 vb] wr.drew fun e w' => ∃ A' c', e = .returned (.tuple #[.agg #[.int .i64 m, .slice A' m c'], .bool (aeB m m (fun v => (foldP R (psN L a j) v : Int)) va vb)]) ∧ OG (wq.heap.size + 1) w' A' m c' (foldP R (psN L a (j + 1))) ∧ Below wr.drew.heap.size wr.drew w') :=
        (AddEdge_s m A5 m c5 (fun v => (foldP R (psN L a j) v : Int)) va vb wr.drew wr.drew.heap.size (HY.out.drew.gv hvg).rd (Nat.le_refl _) (by omega)).mono fun _ _ ⟨A', c', h1, h2, h3⟩ =>
          ⟨A', c', h1, ⟨(h2.congr (fun i hi => by rw [Hnext.out, aeX_or hvg hvam hvbm hne])).mono (by have : wq.heap.size < wr.drew.heap.size := HQ.out.lt; omega) (Nat.le_refl _)⟩, h3⟩
       have HSB : Hid (Below w.heap.size w wr.drew) := (HB.out.keep HF.out.below).drew.below
       have HQd : Hid (GC wr.drew wq.heap.size m A5 m c5) := HQ.out.drew
       have HONd : Hid (ON (wq.heap.size + 1) wr.drew (some ⟨bL, oL, none⟩) cL L) := ⟨HON.out.own.drew⟩
       have HFd : Hid (From wq wr.drew) := HF.out.drew
       have Hqw := Lib.hid hqw
       clear hva hvb hvam hvbm hne hvg hqw HQ HON HF HY
       go_wp2
       go_region_with (first | (go_at_call 122; ((with_reducible refine KA.out.mono ?_); rintro e w5 ⟨A6, c6, rfl, hO5, hb5⟩; have hn5 := HQd.out.keep hb5; have n0 := hn5.c0; have n1 := hn5.c1; have n2 := hn5.f0; have n3 := hn5.f1)))
       all_goals
        have HQ5 : Hid (GC ((w5.setCell ⟨wq.heap.size, 0, none⟩ (.int .i64 m)).setCell ⟨wq.heap.size, 1, none⟩ (.slice A6 m c6)) wq.heap.size m A6 m c6) := hn5.set
        have HO5 : Hid (OG (w.heap.size + 2) ((w5.setCell ⟨wq.heap.size, 0, none⟩ (.int .i64 m)).setCell ⟨wq.heap.size, 1, none⟩ (.slice A6 m c6)) A6 m c6 (foldP R (psN L a (j + 1)))) :=
         ⟨(hO5.own.keep (fr2 w5 wq.heap.size _ _) (.inr (Nat.le_refl _))).mono (by omega) (fr2 w5 wq.heap.size _ _).size⟩
        have HON5 : Hid (ON (wq.heap.size + 1) ((w5.setCell ⟨wq.heap.size, 0, none⟩ (.int .i64 m)).setCell ⟨wq.heap.size, 1, none⟩ (.slice A6 m c6)) (some ⟨bL, oL, none⟩) cL L) := (HONd.out.keep hb5).set _ _
        have HF5 : Hid (From wq ((w5.setCell ⟨wq.heap.size, 0, none⟩ (.int .i64 m)).setCell ⟨wq.heap.size, 1, none⟩ (.slice A6 m c6))) := (HFd.out.keep hb5).set (Nat.le_refl _) _ _
        clear hn5 n0 n1 n2 n3 hO5 hb5 d0 d1 d2 d3
        go_wp2
        go_roundw
        case rel => exact ⟨j + 1, A6, c6, by omega, by go_num, HQ5, HO5, HON5, HF5⟩
        case measure => simp [intOf]; omega
      ·obtain rfl : j = a := by omega
       have Hrow := Lib.hid (psN_row L j)
       go_wp2
       go_roundw
       case rel => exact ⟨j + 1, A5, c5, by omega, by go_num, HQ, by rw [Hrow.out]; exact HY, HON, HF⟩
       case measure => simp [intOf]; omega
    ·obtain rfl : a = L.length := by omega
     rw [Hfold.out] at HY
     go_wp2
     go_roundw
     case rel => exact ⟨k + 1, A5, c5, by omega, by go_num, HQ, HY, HF⟩
     case measure => simp [intOf]; omega
  ·obtain rfl : m = k := by omega
   have HCr := Lib.hid (HC.out.keep HF.out.below)
   have HBr := Lib.hid (HB.out.keep HF.out.below)
   have q0 := HQ.out.c0
   have q1 := HQ.out.c1
   have k0 := HCr.out.c0
   have k1 := HCr.out.c1
   have k2 := HCr.out.f0
   have k3 := HCr.out.f1
   go_wp2
   have F := fr2 wr (w.heap.size + 1) (Value.int .i64 m) (Value.slice A4 m c4)
   have O1 := (HY.out.own.keep F (.inr (Nat.le_refl _))).mono (lo' := w.heap.size) (by omega) F.size
   rw [HN.out]
   exact bodyPost_ret (v := .agg #[.int .i64 m, .slice A4 m c4]) (by simp [results, Tryz.results156, go_sem, k0, k1]) rfl ⟨A4, c4, rfl, ⟨O1⟩, (HBr.out.set (q := w.heap.size + 1) (by omega) _ _).below⟩
end Go.Proofs.YtppkokgiojcgbaaGreatDoor
