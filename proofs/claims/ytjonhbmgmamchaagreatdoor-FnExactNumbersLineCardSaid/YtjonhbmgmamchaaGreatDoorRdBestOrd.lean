/-
  Contracts: the first order for which a number is least, whatever the number is.
-/
import Derived.Test.YtjonhbmgmamchaaGreatDoorRdFirst
import Derived.Test.YtjonhbmgmamchaaGreatDoorRdV
namespace Go.Proofs.YtjonhbmgmamchaaGreatDoor
open Go.RowKit

def boS (p : List Nat → Int) (s : List Nat × Int) (l : List Nat) : List Nat × Int := if s.2 < 0 ∨ p l < s.2 then (l, p l) else s
def boF (p : List Nat → Int) (vis : List (List Nat)) : List Nat × Int := vis.foldl (boS p) ([], -1)
theorem boF_one (p : List Nat → Int) (vis : List (List Nat)) (l : List Nat) : boF p (vis ++ [l]) = boS p (boF p vis) l := by unfold boF; rw [List.foldl_append]; rfl
theorem boS_yes {p : List Nat → Int} {s : List Nat × Int} {l : List Nat} (h : s.2 < 0 ∨ p l < s.2) : boS p s l = (l, p l) := by unfold boS; rw [if_pos h]
theorem boS_no {p : List Nat → Int} {s : List Nat × Int} {l : List Nat} (h : ¬(s.2 < 0 ∨ p l < s.2)) : boS p s l = s := by unfold boS; rw [if_neg h]
/-- The captured variables of the search. -/
structure BO (w0 z : World) (H : Nat) (A : Option Addr) (m c : Nat) (fn : FuncId) (caps : Array Value) (s : List Nat × Int) : Prop where
  fr : From w0 z
  c0 : z.cell? ⟨H, 0, none⟩ = some (.int .i64 m)
  c1 : z.cell? ⟨H, 1, none⟩ = some (.slice A m c)
  f : z.cell? ⟨H + 1, 0, none⟩ = some (.func (.func fn) #[] caps)
  b : ∃ Ab cb, z.cell? ⟨H + 2, 0, none⟩ = some (.slice Ab s.1.length cb) ∧ ON (H + 4) z Ab cb s.1
  n : z.cell? ⟨H + 3, 0, none⟩ = some (.int .i64 s.2)
  fb : z.frozen? ⟨H + 2, 0, none⟩ = false
  fn : z.frozen? ⟨H + 3, 0, none⟩ = false
theorem BO.keep {w0 z z' : World} {H m c : Nat} {A : Option Addr} {fn : FuncId} {caps : Array Value} {s : List Nat × Int} (h : BO w0 z H A m c fn caps s) (hb : Below z.heap.size z z') : BO w0 z' H A m c fn caps s := by
  obtain ⟨Ab, cb, hc, ho⟩ := h.b
  exact ⟨h.fr.keep hb, up_ hb h.c0, up_ hb h.c1, up_ hb h.f, ⟨Ab, cb, up_ hb hc, ho.keep hb⟩, up_ hb h.n, upf hb h.fb (World.block_lt_of_cell? _ _ hc), upf hb h.fn (World.block_lt_of_cell? _ _ h.n)⟩

theorem always_n (A : Option Addr) (n c : Nat) (w : World) : Calls Tryz.prog 77 #[.slice A n c] w fun e w' => e = .returned (.bool true) ∧ Below w.heap.size w w' := by
  go_enter Tryz.func77, Tryz.ntmps77
  go_wp2
  go_ret
  exact ⟨rfl, Below.refl _ _⟩

section
variable {m c H : Nat} {A : Option Addr} {r : Nat → Nat} {fn : FuncId} {caps : Array Value} {p : List Nat → Int} {w0 : World}
set_option maxRecDepth 100000 in
set_option maxHeartbeats 1600000 in
theorem bestOrder1_g (hef : Ent fn) (vis : List (List Nat)) (l : List Nat) (Al : Option Addr) (cl : Nat) (z : World) (hH : w0.heap.size ≤ H) (hj : BO w0 z H A m c fn caps (boF p vis)) (hl : LN z Al cl l) (hlen : l.length ≤ 7)
    (HF : ∀ (A' : Option Addr) (c' : Nat) (z : World), Below w0.heap.size w0 z → LN z A' c' l → Calls Tryz.prog fn (#[.agg #[.int .i64 m, .slice A m c], .slice A' l.length c'] ++ caps) z (fun e z' => e = .returned (.int .i64 (p l)) ∧ Below z.heap.size z z')) :
    Calls Tryz.prog 99 #[.slice Al l.length cl, .pointer (some ⟨H + 1, 0, none⟩), .pointer (some ⟨H, 0, none⟩), .pointer (some ⟨H + 3, 0, none⟩), .pointer (some ⟨H + 2, 0, none⟩)] z (fun e z' => e = .returned (.bool false) ∧ BO w0 z' H A m c fn caps (boF p (vis ++ [l])) ∧ Fr (H + 2) (H + 4) z z') := by
  unfold Ent at hef
  have e0 := hj.c0
  have e1 := hj.c1
  have e2 := hj.f
  have KF := Lib.hid (HF Al cl z hj.fr.below hl)
  have HJ := Lib.hid hj
  have HL := Lib.hid hl
  clear HF hj hl
  go_enter Tryz.func99, Tryz.ntmps99
  go_wp2_with fail
  refine KF.out.mono ?_
  rintro e w1 ⟨rfl, hb1⟩
  have HJ1 := Lib.hid (HJ.out.keep hb1)
  have HL1 := Lib.hid (HL.out.keep hb1)
  have HB1 := Lib.hid hb1
  have HOne := Lib.hid (boF_one p vis l)
  obtain ⟨Ab, cb, hcb, hob⟩ := HJ1.out.b
  have HOB := Lib.hid hob
  have n0 := HJ1.out.n
  have n1 := HJ1.out.fb
  have n2 := HJ1.out.fn
  obtain ⟨y, hy⟩ : ∃ y, y = p l := ⟨_, rfl⟩
  obtain ⟨t, ht⟩ : ∃ t, t = (boF p vis).2 := ⟨_, rfl⟩
  rw [← ht] at n0
  rw [← hy]
  have HY := Lib.hid hy
  have HT := Lib.hid ht
  have hno : ¬(t < 0 ∨ y < t) → Hid (boF p (vis ++ [l]) = boF p vis) := fun h => by
    show _ = _; rw [HOne.out]; exact boS_no (by rw [← HT.out, ← HY.out]; exact h)
  have hyes : (t < 0 ∨ y < t) → Hid (boF p (vis ++ [l]) = (l, y)) := fun h => by
    show _ = _; rw [HOne.out, boS_yes (by rw [← HT.out, ← HY.out]; exact h), HY.out]
  have HNO := Lib.hid hno
  have HYES := Lib.hid hyes
  clear hy ht hcb hob hb1 hno hyes e0 e1 e2 KF
  have hzn : H + 3 < w1.heap.size := World.block_lt_of_cell? _ _ n0
  have hfin : ∀ (w2 : World) (A' : Option Addr) (c' : Nat), (t < 0 ∨ y < t) → ON (H + 4) w2 A' c' l → Below w1.heap.size w1 w2 → BO w0 ((w2.setCell ⟨H + 2, 0, none⟩ (.slice A' l.length c')).setCell ⟨H + 3, 0, none⟩ (.int .i64 y)) H A m c fn caps (boF p (vis ++ [l])) ∧ Fr (H + 2) (H + 4) z ((w2.setCell ⟨H + 2, 0, none⟩ (.slice A' l.length c')).setCell ⟨H + 3, 0, none⟩ (.int .i64 y)) := by
    intro w2 A' c' hc ho hb
    have F : Fr (H + 2) (H + 4) w2 ((w2.setCell ⟨H + 2, 0, none⟩ (.slice A' l.length c')).setCell ⟨H + 3, 0, none⟩ (.int .i64 y)) :=
      ((Fr.refl _ _ w2).setCell (p := ⟨H + 2, 0, none⟩) (by show H + 2 ≤ H + 2; omega) (by show H + 2 < H + 4; omega) _).setCell (p := ⟨H + 3, 0, none⟩) (by show H + 2 ≤ H + 3; omega) (by show H + 3 < H + 4; omega) _
    have hJ2 := HJ1.out.keep hb
    obtain ⟨Ab, cb, k0, _⟩ := hJ2.b
    have k1 := hJ2.n
    have k2 := hJ2.fb
    have k3 := hJ2.fn
    have lt2 := World.block_lt_of_cell? _ _ k0
    have lt3 := World.block_lt_of_cell? _ _ k1
    rw [(HYES.out hc).out]
    refine ⟨⟨?_, frC_ F hJ2.c0 (World.block_lt_of_cell? _ _ hJ2.c0) (.inl (by omega)), frC_ F hJ2.c1 (World.block_lt_of_cell? _ _ hJ2.c1) (.inl (by omega)), frC_ F hJ2.f (World.block_lt_of_cell? _ _ hJ2.f) (.inl (by omega)), ⟨A', c', ?_, ⟨(ho.own.keep F (.inr (Nat.le_refl _))).mono (Nat.le_refl _) F.size⟩⟩, ?_, ?_, ?_⟩, (Fr.of_below (HB1.out.trans (hb.mono HB1.out.size))).trans F⟩
    · exact ⟨bl_set (bl_set hJ2.fr.below (by omega)) (by omega)⟩
    · simp [go_sem, k0]
    · simp [go_sem, k1]
    · simp [go_sem, k2]
    · simp [go_sem, k3]
  have HFIN := Lib.hid hfin
  have HO : Hid (Own (w1.alloc (Obj.cells #[] 3)) w1.heap.size (w1.heap.size + 1) 3 1 (some ⟨w1.heap.size, 0, none⟩) 0 0 (ni [])) :=
    .inr ⟨w1.heap.size, #[], rfl, Nat.le_refl _, Nat.lt_succ_self _, heap_alloc_new w1 _, Nat.le_refl _, by unfold maxLen; omega, rfl, fun j hj => absurd hj (by omega)⟩
  have HR : Hid (Rd (w1.alloc (Obj.cells #[] 3)) w1.heap.size Al l.length cl (fun j => ((l.getD j 0 : Nat) : Int))) := HL1.out.rd.keep ((Below.refl _ _).alloc (Nat.le_refl _) _) (Nat.le_refl _)
  have Hlen := Lib.hid hlen
  have hw1s : w1.heap.size ≤ (w1.alloc (Obj.cells #[] 3)).heap.size := by simp
  have HWS := Lib.hid hw1s
  have hstore : ∀ (P : World → Prop), True := fun _ => trivial
  clear hfin hstore hw1s HL HL1 HOB
  by_cases ht0 : t < 0
  · have Hc : Hid (t < 0 ∨ y < t) := .inl ht0
    go_wp2_with (first | (at_builtin; (refine wpList_appendI _ rfl _ _ rfl rfl HO.out rfl HR.out HWS.out (by omega) (by have := Hlen.out; omega) ?_; intro A' c' w2 hO hb; have hbw := (((Below.refl w1.heap.size w1).alloc (Nat.le_refl _) (Obj.cells #[] 3)).trans hb); have r1 := (HJ1.out.keep hbw).n; have r2 := (HJ1.out.keep hbw).fb; have r3 := (HJ1.out.keep hbw).fn; obtain ⟨Ab2, cb2, r0, _⟩ := (HJ1.out.keep hbw).b)))
    have hon : ON (H + 4) w2 A' c' l := ⟨(by have := hO; rw [Nat.zero_add] at this; exact this.congr (fun j hj => by unfold thenI ni; simp) : Own w2 w1.heap.size w2.heap.size 3 1 A' l.length c' (ni l)).mono (by omega) (Nat.le_refl _)⟩
    have hf := HFIN.out w2 A' c' Hc.out hon hbw
    go_ret
    exact ⟨rfl, hf.1, hf.2⟩
  · by_cases hyt : y < t
    · have Hc : Hid (t < 0 ∨ y < t) := .inr hyt
      go_wp2_with (first | (at_builtin; (refine wpList_appendI _ rfl _ _ rfl rfl HO.out rfl HR.out HWS.out (by omega) (by have := Hlen.out; omega) ?_; intro A' c' w2 hO hb; have hbw := (((Below.refl w1.heap.size w1).alloc (Nat.le_refl _) (Obj.cells #[] 3)).trans hb); have r1 := (HJ1.out.keep hbw).n; have r2 := (HJ1.out.keep hbw).fb; have r3 := (HJ1.out.keep hbw).fn; obtain ⟨Ab2, cb2, r0, _⟩ := (HJ1.out.keep hbw).b)))
      have hon : ON (H + 4) w2 A' c' l := ⟨(by have := hO; rw [Nat.zero_add] at this; exact this.congr (fun j hj => by unfold thenI ni; simp) : Own w2 w1.heap.size w2.heap.size 3 1 A' l.length c' (ni l)).mono (by omega) (Nat.le_refl _)⟩
      have hf := HFIN.out w2 A' c' Hc.out hon hbw
      go_ret
      exact ⟨rfl, hf.1, hf.2⟩
    · have Hc := HNO.out (by omega)
      have ht1 : 0 ≤ t := by omega
      have ht2 : t ≤ y := by omega
      go_wp2
      go_ret
      exact ⟨rfl, by rw [Hc.out]; exact HJ1.out, Fr.of_below HB1.out⟩
theorem seaG_false (m : Nat) (may : List Nat → Bool) : ∀ (k : Nat) (l : List Nat), seaG m may (fun _ => false) k l = none
  | 0, _ => rfl
  | k + 1, l => seaG_none fun u _ => by
    unfold atG
    split
    · exact seaG_false m may k _
    · rfl
theorem bo0 (w W : World) (hW : W = (((w.alloc (Obj.cells #[Value.int IntKind.i64 m, Value.slice A m c] 27)).alloc (Obj.cells #[.func (.func fn) #[] caps] 55)).alloc (Obj.cells #[.slice none 0 0] 22)).alloc (Obj.cells #[.int .i64 (-1)] 3)) :
    BO w W w.heap.size A m c fn caps (boF p []) := by
  subst hW
  refine ⟨(((From.alloc _ _).alloc_ _).alloc_ _).alloc_ _, ?_, ?_, ?_, ⟨none, 0, ?_, ⟨Own.nil _ _ _ _ _ _⟩⟩, ?_, ?_, ?_⟩ <;> simp [go_sem, boF]
set_option maxRecDepth 100000 in
set_option maxHeartbeats 1600000 in
theorem bestOrder_g (hef : Ent fn) (w : World) (h : GV w A m c r)
    (HF : ∀ (l : List Nat) (A' : Option Addr) (c' : Nat) (z : World), Below w.heap.size w z → LN z A' c' l → l.length = m → (∀ v ∈ l, v < m) → l.Nodup → Calls Tryz.prog fn (#[.agg #[.int .i64 m, .slice A m c], .slice A' l.length c'] ++ caps) z (fun e z' => e = .returned (.int .i64 (p l)) ∧ Below z.heap.size z z')) :
    Calls Tryz.prog 69 #[.agg #[.int .i64 m, .slice A m c], .func (.func fn) #[] caps] w fun e w' => ∃ Ab cb, e = .returned (.tuple #[.slice Ab (boF p (visG m (fun _ => true) m [])).1.length cb, .int .i64 (boF p (visG m (fun _ => true) m [])).2]) ∧ ON w.heap.size w' Ab cb (boF p (visG m (fun _ => true) m [])).1 ∧ Below w.heap.size w w' := by
  have hm1 := h.vg.n1
  have hm7 := h.vg.n7
  obtain ⟨W, hW⟩ : ∃ W : World, W = (((w.alloc (Obj.cells #[Value.int IntKind.i64 m, Value.slice A m c] 27)).alloc (Obj.cells #[.func (.func fn) #[] caps] 55)).alloc (Obj.cells #[.slice none 0 0] 22)).alloc (Obj.cells #[.int .i64 (-1)] 3) := ⟨_, rfl⟩
  have hj := bo0 (p := p) w W hW
  have hz : W.heap.size = w.heap.size + 4 := by rw [hW]; simp
  have KF := firstList_g (m := m) (n := m) (A := A) (c := c) (r := r) (fm := 77) (cm := #[]) (fh := 99)
    (ch := #[.pointer (some ⟨w.heap.size + 1, 0, none⟩), .pointer (some ⟨w.heap.size, 0, none⟩), .pointer (some ⟨w.heap.size + 3, 0, none⟩), .pointer (some ⟨w.heap.size + 2, 0, none⟩)])
    (may := fun _ => true) (hol := fun _ => false) (lo := w.heap.size + 2) (hi := w.heap.size + 4) (J := fun vis z => BO w z w.heap.size A m c fn caps (boF p vis))
    (ent_of Tryz.func77 (by kernel_rfl) rfl) (ent_of Tryz.func99 (by kernel_rfl) rfl) W (h.keep hj.fr.below) hm1 (by omega) (fun vis z z' hz hb => hz.keep hb) hj
    (fun vis l A c z _ _ _ _ _ => always_n A l.length c z)
    (fun vis l A' c' z hz hr hl hv hn => bestOrder1_g hef vis l A' c' z (Nat.le_refl _) hz ⟨hr⟩ (by omega) (fun A2 c2 z2 hb2 hl2 => HF l A2 c2 z2 hb2 hl2 hl hv hn))
  have HKF := Lib.hid KF
  have HJ := Lib.hid hj
  have HW := Lib.hid hW
  have HZ := Lib.hid hz
  have e0 := hj.c0
  have e1 := hj.c1
  obtain ⟨s, hs⟩ : ∃ s, s = boF p (visG m (fun _ => true) m []) := ⟨_, rfl⟩
  rw [← hs]
  have HS := Lib.hid hs
  clear hW KF hj HF h hz hs
  go_enter Tryz.func69, Tryz.ntmps69
  go_wp2_with fail
  rw [← HW.out]
  clear HW
  refine HKF.out.mono ?_
  rintro e w1 ⟨hf, hp⟩
  rw [seaG_false] at hp
  obtain ⟨rfl, hj1⟩ := hp
  rw [← HS.out] at hj1
  obtain ⟨Ab, cb, r0, ho⟩ := hj1.b
  have r1 := hj1.n
  have HO := Lib.hid ho
  have HF := Lib.hid hj1.fr
  have HON : Hid (ON w.heap.size w1 Ab cb s.1) := ho.mono (by omega)
  clear HKF HJ hf hj1 ho e0 e1
  go_wp2
  go_region
  go_wp2
  go_ret2
  exact ⟨Ab, cb, rfl, ⟨HON.out.own⟩, HF.out.drew.below⟩
end
end Go.Proofs.YtjonhbmgmamchaaGreatDoor
