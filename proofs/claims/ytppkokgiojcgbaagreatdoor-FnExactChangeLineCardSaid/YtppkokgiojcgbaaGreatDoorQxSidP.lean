/-
-/
import Derived.Test.YtppkokgiojcgbaaGreatDoorQxIndI
import Derived.Test.YtppkokgiojcgbaaGreatDoorQxJoinI
namespace Go.Proofs.YtppkokgiojcgbaaGreatDoor
open Go.RowKit
section
variable {m : Nat} {r : Nat → Nat}
def cmp (r : Nat → Nat) (m v : Nat) : Nat := part r (2 ^ m - 1) (2 ^ v)
theorem full_bit {u : Nat} : (2 ^ m - 1).testBit u = decide (u < m) := Nat.testBit_two_pow_sub_one m u
theorem pow_subS {s v : Nat} (h : s.testBit v = true) : Sub (2 ^ v) s := fun u hu => by
 rw [Nat.testBit_two_pow] at hu
 have : v = u := by simpa using hu
 rw [← this]; exact h
theorem pow_ne (v : Nat) : 2 ^ v ≠ 0 := by have := Nat.two_pow_pos v; omega
theorem stp_mono {set s t : Nat} (h : Sub s t) : Sub (stp r set s) (stp r set t) := fun u hu => by
 have h1 := stp_bit.1 hu
 exact stp_bit.2 ⟨h1.1.imp (h u) (nb_mono h u), h1.2⟩
theorem gro_in {set s t : Nat} (h : Sub s t) (hc : Sub (stp r set t) t) : ∀ k, Sub (gro r set s k) t := by
 intro k
 induction k with
 | zero => exact h
 | succ k ih => exact (stp_mono ih).trans hc
theorem full_sub_of {v : Nat} (hv : v < m) : Sub (2 ^ v) (2 ^ m - 1) := pow_subS (by rw [full_bit]; simpa using hv)
theorem cmp_fix (vg : VG m r) {v : Nat} (hv : v < m) : stp r (2 ^ m - 1) (cmp r m v) = cmp r m v :=
 gro_stop (n := 7) (by omega) (by have := two_pow_le vg.n7; omega) (full_sub_of hv) (pow_ne v)
theorem cmp_self {v : Nat} (hv : v < m) : (cmp r m v).testBit v = true := gro_from (full_sub_of hv) 7 v (by simp)
theorem cmp_sub {v : Nat} (hv : v < m) : Sub (cmp r m v) (2 ^ m - 1) := gro_sub (full_sub_of hv) 7
theorem cmp_lt {v : Nat} (hv : v < m) : cmp r m v < 2 ^ m := sub_lt (cmp_sub hv) (by have := Nat.two_pow_pos m; omega)
theorem cmp_bit {v u : Nat} (hv : v < m) (h : (cmp r m v).testBit u = true) : u < m := bit_lt (cmp_lt hv) h
theorem cmp_in (vg : VG m r) {u v : Nat} (hu : u < m) (h : (cmp r m u).testBit v = true) : Sub (cmp r m v) (cmp r m u) :=
 gro_in (pow_subS h) (by rw [cmp_fix vg hu]; exact fun _ h => h) 7
theorem cmp_eq (vg : VG m r) {u v : Nat} (hu : u < m) (h : (cmp r m u).testBit v = true) : cmp r m u = cmp r m v := by
 have hv := cmp_bit hu h
 have hn7 := vg.n7
 refine Sub.antisymm ?_ (cmp_in vg hu h)
 cases hb : (cmp r m v).testBit u
 ·exfalso
  have hE : Sub (stp r (2 ^ m - 1) ((2 ^ m - 1) ^^^ cmp r m v)) ((2 ^ m - 1) ^^^ cmp r m v) := by
   intro x hx
   have h1 := stp_bit.1 hx
   have hxm : x < m := by have := h1.2; rw [full_bit] at this; simpa using this
   rw [Nat.testBit_xor, full_bit, decide_eq_true hxm]
   cases hxd : (cmp r m v).testBit x
   ·rfl
   ·exfalso
    rcases h1.1 with h2 | h2
    ·rw [Nat.testBit_xor, full_bit, decide_eq_true hxm, hxd] at h2; cases h2
    ·obtain ⟨y, hy7, hy, hyx⟩ := nb_bit.1 h2
     rw [Nat.testBit_xor, full_bit] at hy
     have hym : y < m := by
      by_cases e : y < m
      ·exact e
      ·rw [decide_eq_false e] at hy
       have : (cmp r m v).testBit y = true := by simpa using hy
       exact cmp_bit hv this
     rw [decide_eq_true hym] at hy
     have hyd : (cmp r m v).testBit y = false := by simpa using hy
     have : (stp r (2 ^ m - 1) (cmp r m v)).testBit y = true := stp_bit.2 ⟨.inr (nb_bit.2 ⟨x, by omega, hxd, by rw [vg.sym x y hxm hym]; exact hyx⟩), by rw [full_bit]; simpa using hym⟩
     rw [cmp_fix vg hv, hyd] at this
     cases this
  have hin := gro_in (r := r) (set := 2 ^ m - 1) (s := 2 ^ u) (t := (2 ^ m - 1) ^^^ cmp r m v) (pow_subS (by rw [Nat.testBit_xor, full_bit, decide_eq_true hu, hb]; rfl)) hE 7 v h
  rw [Nat.testBit_xor, full_bit, decide_eq_true hv, cmp_self hv] at hin
  cases hin
 ·exact cmp_in vg hv hb
theorem part_cmp (vg : VG m r) {left : Nat} (hl : left < 2 ^ m) (hcl : Sub (stp r (2 ^ m - 1) left) left) (h0 : left ≠ 0) {v : Nat} (hv : (part r left (low left)).testBit v = true) : part r left (low left) = cmp r m v := by
 have h128 := two_pow_le vg.n7
 have hlf : Sub left (2 ^ m - 1) := fun u hu => by rw [full_bit]; simpa using bit_lt hl hu
 have hlow := low_sub (by omega : left < 128) h0
 obtain ⟨u, l, e, hu7, hub⟩ := list_ne (by omega : left < 128) h0
 have hum := bit_lt hl hub
 have he : part r left (low left) = cmp r m u := by
  unfold part cmp part
  rw [← gro_left hcl hlf hlow.1 7, low_of e]
 rw [he] at hv ⊢
 exact cmp_eq vg hum hv
def fstN (s : Nat) : Nat := (listN s).getD 0 0
def dsO (r : Nat → Nat) (m v w : Nat) : Option Nat := (List.range m).find? fun n => (gro r (2 ^ m - 1) (2 ^ v) n).testBit w
def dsI (r : Nat → Nat) (m v w : Nat) : Int := optI (dsO r m v w)
theorem dsI_yes {v w n : Nat} (hn : n < m) (h : (gro r (2 ^ m - 1) (2 ^ v) n).testBit w = true) (hmin : ∀ j, j < n → (gro r (2 ^ m - 1) (2 ^ v) j).testBit w = false) : dsI r m v w = n := by
 have : dsO r m v w = some n := by
  unfold dsO
  rw [List.find?_range_eq_some]
  exact ⟨h, by simp [hn], fun j hj => by simp [hmin j hj]⟩
 unfold dsI; rw [this]; rfl
theorem dsI_no {v w : Nat} (h : ∀ j, j < m → (gro r (2 ^ m - 1) (2 ^ v) j).testBit w = false) : dsI r m v w = -1 := by
 have : dsO r m v w = none := by
  unfold dsO
  rw [List.find?_eq_none]
  intro j hj
  simp [h j (List.mem_range.1 hj)]
 unfold dsI; rw [this]; rfl
theorem dsI_range (v w : Nat) : -1 ≤ dsI r m v w ∧ dsI r m v w < 7 ∨ 7 < m := by
 by_cases hm : m ≤ 7
 ·left
  unfold dsI
  cases h : dsO r m v w with
  | none => exact ⟨Int.le_refl _, by decide⟩
  | some n =>
    unfold dsO at h
    have := List.mem_range.1 (List.mem_of_find?_eq_some h)
    show -1 ≤ (n : Int) ∧ (n : Int) < 7
    omega
 ·right; omega
def evB (r : Nat → Nat) (m v : Nat) : Bool := decide ((dsI r m (fstN (cmp r m v)) v).tmod 2 = 0)
def sdS (r : Nat → Nat) (m : Nat) : Nat := bmK (evB r m) m
def sdO (r : Nat → Nat) (m : Nat) : Option Nat := if indB r (sdS r m) && indB r ((2 ^ m - 1) ^^^ sdS r m) then some (sdS r m) else none
theorem fst_in {s : Nat} (hs : s < 128) (h : s ≠ 0) : s.testBit (fstN s) = true ∧ 0 < (listN s).length := by
 obtain ⟨v, l, e, _, hb⟩ := list_ne hs h
 unfold fstN
 rw [e]
 exact ⟨hb, by simp⟩
def evL (P : Nat → Bool) (a : Nat) (l : List Nat) : Nat := l.foldl (fun a v => if P v = true then a ||| 2 ^ v else a) a
theorem evL_snoc {P : Nat → Bool} {a v : Nat} {l : List Nat} : evL P a (l ++ [v]) = if P v = true then evL P a l ||| 2 ^ v else evL P a l := by
 unfold evL; rw [List.foldl_append]; rfl
theorem evL_bit {P : Nat → Bool} {u : Nat} : ∀ (l : List Nat) (a : Nat), (evL P a l).testBit u = (a.testBit u || (decide (u ∈ l) && P u)) := by
 intro l
 induction l with
 | nil => intro a; simp [evL]
 | cons v l ih =>
   intro a
   show (evL P (if P v = true then a ||| 2 ^ v else a) l).testBit u = _
   rw [ih]
   by_cases e : u = v
   ·subst e
    cases P u
    ·simp
    ·simp
   ·cases h : P v
    ·simp [e]
    ·simp [e, Nat.testBit_or, show ¬ v = u from fun h => e h.symm]
theorem evL_lt {P : Nat → Bool} {a : Nat} {l : List Nat} (ha : a < 2 ^ m) (hl : ∀ v ∈ l, v < m) : evL P a l < 2 ^ m := by
 induction l generalizing a with
 | nil => exact ha
 | cons v l ih =>
   refine ih (a := if P v = true then a ||| 2 ^ v else a) ?_ fun u hu => hl u (List.mem_cons_of_mem _ hu)
   split
   ·exact Nat.or_lt_two_pow ha (Nat.pow_lt_pow_right (by omega) (hl v (by simp)))
   ·exact ha
def evT (P : Nat → Bool) (T : List Nat) : Nat := T.foldl (fun a p => evL P a (listN p)) 0
theorem evT_snoc {P : Nat → Bool} {T : List Nat} {p : Nat} : evT P (T ++ [p]) = evL P (evT P T) (listN p) := by
 unfold evT; rw [List.foldl_append]; rfl
theorem evT_bit {P : Nat → Bool} {u : Nat} (T : List Nat) : (evT P T).testBit u = (decide (∃ p ∈ T, u ∈ listN p) && P u) := by
 suffices h : ∀ (T : List Nat) (a : Nat), (T.foldl (fun a p => evL P a (listN p)) a).testBit u = (a.testBit u || (decide (∃ p ∈ T, u ∈ listN p) && P u)) by
  have := h T 0
  rw [Nat.zero_testBit, Bool.false_or] at this
  exact this
 intro T
 induction T with
 | nil => intro a; simp
 | cons p T ih =>
   intro a
   rw [List.foldl_cons, ih, evL_bit]
   by_cases h1 : u ∈ listN p
   ·by_cases h2 : ∃ q ∈ T, u ∈ listN q
    ·simp [h1, h2] <;> (cases a.testBit u <;> cases P u <;> simp_all)
    ·simp [h1] <;> (cases a.testBit u <;> cases P u <;> simp_all)
   ·simp [h1]
theorem evT_lt {P : Nat → Bool} {T : List Nat} (h : ∀ p ∈ T, p < 2 ^ m) : evT P T < 2 ^ m := by
 suffices hh : ∀ (T : List Nat) (a : Nat), a < 2 ^ m → (∀ p ∈ T, p < 2 ^ m) → T.foldl (fun a p => evL P a (listN p)) a < 2 ^ m from hh T 0 (Nat.two_pow_pos m) h
 intro T
 induction T with
 | nil => intro a ha _; exact ha
 | cons p T ih =>
   intro a ha hp
   exact ih _ (evL_lt ha fun v hv => bit_lt (hp p (by simp)) (mem_listN.1 hv).2) fun q hq => hp q (by simp [hq])
structure PT (r : Nat → Nat) (m : Nat) (T : List Nat) : Prop where
 lt : ∀ p ∈ T, p < 2 ^ m
 ne : ∀ p ∈ T, p ≠ 0
 is : ∀ p ∈ T, ∀ v, p.testBit v = true → p = cmp r m v
structure PL (r : Nat → Nat) (m left : Nat) (T : List Nat) : Prop where
 pt : PT r m T
 cl : Sub (stp r (2 ^ m - 1) left) left
 al : ∀ v, v < m → left.testBit v = true ∨ ∃ p ∈ T, p.testBit v = true
theorem PL.start (r : Nat → Nat) (m : Nat) : PL r m (2 ^ m - 1) [] := by
 refine ⟨⟨(fun p hp => by cases hp), (fun p hp => by cases hp), (fun p hp => by cases hp)⟩, fun u hu => (stp_bit.1 hu).2, fun v hv => .inl (by rw [full_bit]; simpa using hv)⟩
theorem PL.step {left : Nat} {T : List Nat} (vg : VG m r) (h : PL r m left T) (hl : left < 2 ^ m) (h0 : left ≠ 0) : PL r m (left ^^^ part r left (low left)) (T ++ [part r left (low left)]) := by
 have h128 := two_pow_le vg.n7
 have hlf : Sub left (2 ^ m - 1) := fun u hu => by rw [full_bit]; simpa using bit_lt hl hu
 have hps := part_sub (r := r) (by omega : left < 128) h0
 have hplt := sub_lt hps.1 hl
 refine ⟨⟨fun p hp => ?_, fun p hp => ?_, fun p hp v hv => ?_⟩, closed_next vg (by have := Nat.two_pow_pos m; omega) hlf h.cl h0, fun v hv => ?_⟩
 ·rcases List.mem_append.1 hp with hp | hp
  ·exact h.pt.lt p hp
  ·rw [List.mem_singleton] at hp; rw [hp]; exact hplt
 ·rcases List.mem_append.1 hp with hp | hp
  ·exact h.pt.ne p hp
  ·rw [List.mem_singleton] at hp; rw [hp]; exact hps.2
 ·rcases List.mem_append.1 hp with hp | hp
  ·exact h.pt.is p hp v hv
  ·rw [List.mem_singleton] at hp
   rw [hp] at hv ⊢
   exact part_cmp vg hl h.cl h0 hv
 ·rcases h.al v hv with h1 | ⟨p, hp, h1⟩
  ·cases hb : (part r left (low left)).testBit v
   ·left; rw [Nat.testBit_xor, h1, hb]; rfl
   ·exact .inr ⟨_, by simp, hb⟩
  ·exact .inr ⟨p, by simp [hp], h1⟩
theorem PL.fin {T : List Nat} (vg : VG m r) (h : PL r m 0 T) : evT (evB r m) T = sdS r m := by
 apply Nat.eq_of_testBit_eq
 intro u
 have hn7 := vg.n7
 unfold sdS
 rw [evT_bit, bmK_bit]
 congr 1
 rw [decide_eq_decide]
 constructor
 ·rintro ⟨p, hp, hu⟩
  exact bit_lt (h.pt.lt p hp) (mem_listN.1 hu).2
 ·intro hu
  rcases h.al u hu with h1 | ⟨p, hp, h1⟩
  ·simp at h1
  ·exact ⟨p, hp, mem_listN.2 ⟨by omega, h1⟩⟩
end
end Go.Proofs.YtppkokgiojcgbaaGreatDoor
