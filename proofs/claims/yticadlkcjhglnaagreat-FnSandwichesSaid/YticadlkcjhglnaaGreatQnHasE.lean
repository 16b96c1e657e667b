/-
  Several texts in one.
-/
import Derived.Test.YticadlkcjhglnaaGreatQnFoS
import Derived.Test.YticadlkcjhglnaaGreatQnInP
import Derived.Test.YticadlkcjhglnaaGreatQnSet2I
import Derived.Test.YticadlkcjhglnaaGreatQnGB
import Derived.Lib.AppendZeros
import Derived.Test.YticadlkcjhglnaaGreatQnSwS
import Derived.Test.YticadlkcjhglnaaGreatQnGA
/-
-/
namespace Go.Proofs.YticadlkcjhglnaaGreat
open Go.RowKit
theorem foE_len (E : List (Nat × Nat)) (cm k : Nat) : (foE E cm k).length ≤ k := by unfold foE; rw [List.length_map]; exact foI_len cm k
section
variable {s1 : Int} {m1 : Nat} {x1 : Nat → Int} {s2 : Int} {m2 : Nat} {x2 : Nat → Int} {s : List UInt8}
theorem foL_two : ∀ l ∈ foL s1 m1 x1 s2 m2 x2 s, l.length = 2 := by
 intro l hl
 unfold foL PrE at hl
 split at hl
 ·rw [List.mem_map] at hl
  obtain ⟨_, _, rfl⟩ := hl
  rfl
 ·cases hl
theorem foL_len : (foL s1 m1 x1 s2 m2 x2 s).length ≤ 6 := by
 unfold foL PrE
 split
 ·rename_i h
  rw [List.length_map]
  refine Nat.le_trans (foE_len _ _ _) ?_
  unfold fsO at h
  split at h
  ·rename_i h2; exact h2.2
  ·cases h
 ·simp
end
section
variable (s1 : Int) (A1 : Option Addr) (m1 c1 : Nat) (x1 : Nat → Int) (s2 : Int) (A2 : Option Addr) (m2 c2 : Nat) (x2 : Nat → Int) (t3 : ByteArray) (w : World) (B : Nat)
end
end Go.Proofs.YticadlkcjhglnaaGreat

/-
-/
namespace Go.Proofs.YticadlkcjhglnaaGreat
open Go.RowKit
theorem lists_eq {D E : List Dsc} (hlen : D.length = E.length) (h : ∀ j, j < D.length → (D.getD j (none, 0, [])).2.2 = (E.getD j (none, 0, [])).2.2) : lists D = lists E := by
 unfold lists
 refine List.ext_getElem (by simp [hlen]) fun i hi hi' => ?_
 simp at hi hi'
 have := h i hi
 simpa [List.getD, hi, hi'] using this
theorem lists_ne {D E : List Dsc} (j : Nat) (hj : j < D.length) (hj' : j < E.length) (h : (D.getD j (none, 0, [])).2.2 ≠ (E.getD j (none, 0, [])).2.2) : lists D ≠ lists E := by
 intro e
 apply h
 have := congrArg (fun l => l[j]?) e
 simpa [lists, List.getD, hj, hj'] using this
theorem dvs_atD {D : List Dsc} {j : Nat} (h : j < D.length) : D[j]? = some (D.getD j (none, 0, [])) ∧ D.getD j (none, 0, []) ∈ D ∧ dvs D j = dv (D.getD j (none, 0, [])) := by
 obtain ⟨d, h1, h2, h3⟩ := dvs_at h
 have : D.getD j (none, 0, []) = d := by simp [List.getD, h1]
 rw [this]
 exact ⟨h1, h2, h3⟩
end Go.Proofs.YticadlkcjhglnaaGreat

/-
-/
namespace Go.Proofs.YticadlkcjhglnaaGreat
open Go.RowKit
set_option maxHeartbeats 1000000 in
theorem sameInts_any (A1 A2 : Option Addr) (n1 n2 c1 c2 : Nat) (x1 x2 : Nat → Int) (w : World) (B : Nat) (h1 : Rd w B A1 n1 c1 x1) (h2 : Rd w B A2 n2 c2 x2) (hB : B ≤ w.heap.size) (hn1 : n1 ≤ 1073741824) (hn2 : n2 ≤ 1073741824) :
 Calls Tryz.prog 50 #[.slice A1 n1 c1, .slice A2 n2 c2] w fun e w' => e = .returned (.bool (sl n1 x1 n2 x2)) ∧ Below w.heap.size w w' := by
 by_cases hne : n1 = n2
 rotate_left
 ·have e := Lib.hid (sl_len (x := x1) (y := x2) hne)
  have hne' : (n1 : Int) ≠ (n2 : Int) := by omega
  go_enter Tryz.func50, Tryz.ntmps50
  go_wp2
  go_ret
  exact ⟨ret_bool e.out.symm, Below.refl _ _⟩
 subst hne
 have H1 := Lib.hid h1
 have H2 := Lib.hid h2
 clear h1 h2
 go_enter Tryz.func50, Tryz.ntmps50
 go_wp2
 go_loopw [5] (fun i wr => ∃ k : Nat, k ≤ n1 ∧ i = .int .i64 k ∧ Hid (∀ j, j < k → x1 j = x2 j) ∧ Below w.heap.size w wr) (fun i _ => n1 - (intOf i).toNat)
 case atStart => exact ⟨0, Nat.zero_le _, rfl, (fun j hj => absurd hj (by omega)), Below.refl _ _⟩
 case round =>
  obtain ⟨k, hk, rfl, hall, hbr⟩ := hrel
  by_cases hlt : k < n1
  ·obtain ⟨b1, o1, rfl, l1, c1'⟩ := H1.out.pos (by omega)
   obtain ⟨b2, o2, rfl, l2, c2'⟩ := H2.out.pos (by omega)
   have f1 := (hbr.cell (p := ⟨b1, o1 + k, none⟩) (by show b1 < _; omega)).trans (c1' k hlt)
   have f2 := (hbr.cell (p := ⟨b2, o2 + k, none⟩) (by show b2 < _; omega)).trans (c2' k hlt)
   have hi : (k : Int) < (n1 : Int) := by omega
   clear c1' c2'
   by_cases hq : x1 k = x2 k
   ·have HB := Lib.hid hbr
    have Hq := Lib.hid hq
    rw [← hq] at f2
    clear hbr hq
    go_wp2
    go_quiet (fail)
    go_wp2
    go_roundw
    case rel =>
     refine ⟨k + 1, by omega, by go_num, fun j hj => ?_, below_drewN HB.out _⟩
     by_cases hjk : j < k
     ·exact hall.out j hjk
     ·obtain rfl : j = k := by omega
      exact Hq.out
    case measure => simp [intOf]; omega
   ·have HB := Lib.hid hbr
    have e := Lib.hid (sl_no hlt hq)
    clear hbr
    go_wp2
    go_quiet (fail)
    go_wp2
    go_ret
    exact ⟨ret_bool e.out.symm, below_drewN HB.out _⟩
  ·have hge : (n1 : Int) ≤ (k : Int) := by omega
   have HB := Lib.hid hbr
   have e := Lib.hid (sl_yes (n := n1) (x := x1) (y := x2) fun j hj => hall.out j (by omega))
   clear hbr
   go_wp2
   go_ret
   exact ⟨ret_bool e.out.symm, HB.out⟩
set_option maxHeartbeats 1000000 in
theorem sameLists_any (A1 A2 : Option Addr) (c1 c2 : Nat) (D E : List Dsc) (w : World) (B : Nat) (h1 : RdD w B A1 c1 D) (h2 : RdD w B A2 c2 E) (hB : B ≤ w.heap.size) (hn : D.length ≤ 1073741824) (ht : tot D ≤ 1073741824) (_hn2 : E.length ≤ 1073741824) (ht2 : tot E ≤ 1073741824) :
 Calls Tryz.prog 14 #[.slice A1 D.length c1, .slice A2 E.length c2] w fun e w' => e = .returned (.bool (decide (lists D = lists E))) ∧ Below w.heap.size w w' := by
 obtain ⟨n, hnn⟩ : ∃ n, n = D.length := ⟨_, rfl⟩
 by_cases hle : D.length = E.length
 rotate_left
 ·have e : Hid (decide (lists D = lists E) = false) := decide_eq_false fun h => hle (len_lists h)
  obtain ⟨n2, hnn2⟩ : ∃ n, n = E.length := ⟨_, rfl⟩
  rw [← hnn] at hn hle ⊢
  rw [← hnn2] at _hn2 hle ⊢
  have hne' : (n : Int) ≠ (n2 : Int) := by omega
  clear h1 h2
  go_enter Tryz.func14, Tryz.ntmps14
  go_wp2
  go_ret
  exact ⟨ret_bool e.out.symm, Below.refl _ _⟩
 rw [← hle]
 rw [← hnn] at hn hle ⊢
 have Hn := Lib.hid hnn
 have Hl := Lib.hid hle
 clear hnn hle _hn2
 go_enter Tryz.func14, Tryz.ntmps14
 go_wp2
 go_loopw [5] (fun i wr => ∃ k : Nat, k ≤ n ∧ i = .int .i64 k ∧ Hid (∀ j, j < k → (D.getD j (none, 0, [])).2.2 = (E.getD j (none, 0, [])).2.2) ∧ Below w.heap.size w wr) (fun i _ => n - (intOf i).toNat)
 case atStart => exact ⟨0, Nat.zero_le _, rfl, (fun j hj => absurd hj (by omega)), Below.refl _ _⟩
 case round =>
  obtain ⟨k, hk, rfl, hall, hbr⟩ := hrel
  by_cases hlt : k < n
  ·have hkD : k < D.length := by rw [← Hn.out]; exact hlt
   have hkE : k < E.length := by rw [← Hl.out]; exact hlt
   obtain ⟨hd, hm, hdv⟩ := dvs_atD hkD
   obtain ⟨hd', hm', hdv'⟩ := dvs_atD hkE
   obtain ⟨d, hdd⟩ : ∃ d, d = D.getD k (none, 0, []) := ⟨_, rfl⟩
   obtain ⟨d', hdd'⟩ : ∃ d, d = E.getD k (none, 0, []) := ⟨_, rfl⟩
   have Hs : Hid (d.2.2 = d'.2.2 → ∀ j, j < k + 1 → (D.getD j (none, 0, [])).2.2 = (E.getD j (none, 0, [])).2.2) := by
    intro h j hj
    by_cases hjk : j < k
    ·exact hall.out j hjk
    ·obtain rfl : j = k := by omega
     rw [← hdd, ← hdd']; exact h
   have Hx : Hid (d.2.2 ≠ d'.2.2 → decide (lists D = lists E) = false) := fun h => decide_eq_false (lists_ne k hkD hkE (by rw [← hdd, ← hdd']; exact h))
   rw [← hdd] at hd hm hdv
   rw [← hdd'] at hd' hm' hdv'
   have r1 := (h1.2 d hm).keep (hbr.drew.mono hB) (Nat.le_refl _)
   have r2 := (h2.2 d' hm').keep (hbr.drew.mono hB) (Nat.le_refl _)
   obtain ⟨b1, o1, rfl, l1, c1'⟩ := h1.1.2 (by rw [← Hn.out]; omega)
   obtain ⟨b2, o2, rfl, l2, c2'⟩ := h2.1.2 (by rw [← Hl.out]; omega)
   have f1 := (hbr.cell (p := ⟨b1, o1 + k, none⟩) (by show b1 < _; omega)).trans (c1' k hkD)
   have f2 := (hbr.cell (p := ⟨b2, o2 + k, none⟩) (by show b2 < _; omega)).trans (c2' k hkE)
   rw [hdv] at f1
   rw [hdv'] at f2
   have hm7 : d.2.2.length ≤ 1073741824 := by
    have h3 := tot_take_le D (k + 1)
    rw [take_at hd, tot_snoc] at h3
    omega
   have hm8 : d'.2.2.length ≤ 1073741824 := by
    have h3 := tot_take_le E (k + 1)
    rw [take_at hd', tot_snoc] at h3
    omega
   have hsl := sl_list d.2.2 d'.2.2
   obtain ⟨da, dc, dl⟩ := d
   obtain ⟨ea, ec, el⟩ := d'
   simp only [dv] at f1 f2 r1 r2 hm7 hm8 hsl Hs Hx
   have i1 : (k : Int) < (n : Int) := by omega
   have hz := hbr.size
   have K := Lib.hid (fun z (hb : Below wr.drew.heap.size wr.drew z) => sameInts_any da ea dl.length el.length dc ec _ _ z B (r1.keep (hb.mono (Nat.le_trans hB hz)) (Nat.le_refl _)) (r2.keep (hb.mono (Nat.le_trans hB hz)) (Nat.le_refl _)) (Nat.le_trans hB (Nat.le_trans hz hb.size)) hm7 hm8)
   simp only [hsl] at K
   clear c1' c2' h1 h2 hd hd' hm hm' hdv hdv' r1 r2 hsl hdd hdd' hkD hkE
   obtain ⟨m, hm2⟩ : ∃ m, m = dl.length := ⟨_, rfl⟩
   obtain ⟨m', hm2'⟩ : ∃ m, m = el.length := ⟨_, rfl⟩
   rw [← hm2] at f1 hm7 K
   rw [← hm2'] at f2 hm8 K
   clear hm2 hm2'
   go_wp2_with fail
   by_cases hq : dl = el
   ·have hqd : decide (dl = el) = true := decide_eq_true hq
    rw [hqd] at K
    have HQ := Lib.hid (Hs.out hq)
    clear hqd hq Hs Hx
    go_region_held3 (fun z => z.cell? ⟨b1, o1 + k, none⟩ = some (.slice da m dc) ∧ z.cell? ⟨b2, o2 + k, none⟩ = some (.slice ea m' ec))
     (first | (refine ⟨?_, ?_⟩ <;> assumption) | (refine ⟨?_, ?_⟩ <;> (refine (hb.cell (by first | (show b1 < wr.heap.size; omega) | (show b2 < wr.heap.size; omega))).trans ?_; assumption)))
     ((go_at_call 50; (refine (K.out _ (Below.refl _ _)).mono ?_); rintro e w1 ⟨rfl, hb⟩))
    have HB := Lib.hid (hbr.drew.trans (hb.mono hbr.size))
    clear f1 f2 hb hbr
    go_wp2
    go_roundw
    case rel => exact ⟨k + 1, by omega, by go_num, HQ, HB.out⟩
    case measure => simp [intOf]; omega
   ·have hqd : decide (dl = el) = false := decide_eq_false hq
    rw [hqd] at K
    have HQ := Lib.hid (Hx.out hq)
    clear hqd hq Hs Hx
    go_region_held3 (fun z => z.cell? ⟨b1, o1 + k, none⟩ = some (.slice da m dc) ∧ z.cell? ⟨b2, o2 + k, none⟩ = some (.slice ea m' ec))
     (first | (refine ⟨?_, ?_⟩ <;> assumption) | (refine ⟨?_, ?_⟩ <;> (refine (hb.cell (by first | (show b1 < wr.heap.size; omega) | (show b2 < wr.heap.size; omega))).trans ?_; assumption)))
     ((go_at_call 50; (refine (K.out _ (Below.refl _ _)).mono ?_); rintro e w1 ⟨rfl, hb⟩))
    have HB := Lib.hid (hbr.drew.trans (hb.mono hbr.size))
    clear f1 f2 hb hbr
    go_wp2
    go_ret
    exact ⟨ret_bool HQ.out.symm, HB.out⟩
  ·have hge : (n : Int) ≤ (k : Int) := by omega
   have HB := Lib.hid hbr
   have e : Hid (decide (lists D = lists E) = true) := decide_eq_true (lists_eq (Hn.out ▸ Hl.out) fun j hj => hall.out j (by rw [← Hn.out] at hj; omega))
   clear hbr h1 h2
   go_wp2
   go_ret
   exact ⟨ret_bool e.out.symm, HB.out⟩
end Go.Proofs.YticadlkcjhglnaaGreat

/-
-/
namespace Go.Proofs.YticadlkcjhglnaaGreat
open Go.RowKit
structure LV (w : World) (A : Option Addr) (n c : Nat) (x : Nat → Value) : Prop where
 rd : RdV w w.heap.size A n c x
theorem LV.keep {w w' : World} {A : Option Addr} {n c : Nat} {x : Nat → Value} (h : LV w A n c x) (hb : Below w.heap.size w w') : LV w' A n c x := ⟨h.rd.keep hb hb.size⟩
structure LD (w : World) (A : Option Addr) (c : Nat) (D : List Dsc) : Prop where
 rd : RdD w w.heap.size A c D
theorem LD.keep {w w' : World} {A : Option Addr} {c : Nat} {D : List Dsc} (h : LD w A c D) (hb : Below w.heap.size w w') : LD w' A c D := ⟨h.rd.keep hb hb.size⟩
theorem getD_erase (D : List Dsc) (i j : Nat) (d : Dsc) : (D.eraseIdx i).getD j d = if j < i then D.getD j d else D.getD (j + 1) d := by
 simp only [List.getD, List.getElem?_eraseIdx]
 split <;> rfl
theorem LD.post {w : World} {b o c i : Nat} {D : List Dsc} (h : LD w (some ⟨b, o, none⟩) c D) (hi : i < D.length) (hc : i + 1 < c) : LV w (some ⟨b, o + (i + 1), none⟩) (D.length - (i + 1)) (c - (i + 1)) (fun j => dvs D (i + 1 + j)) :=
 ⟨by have := h.rd.1.1; omega, fun hn => by
   obtain ⟨b', o', e, hb, hc⟩ := h.rd.1.2 (by omega)
   simp only [Option.some.injEq, Addr.mk.injEq, and_true] at e
   obtain ⟨rfl, rfl⟩ := e
   exact ⟨b, o + (i + 1), rfl, hb, fun k hk => by rw [Nat.add_assoc]; exact hc (i + 1 + k) (by omega)⟩⟩
theorem LD.erase {w' : World} {A A' : Option Addr} {c c' i lo : Nat} {D : List Dsc} (h : LD w' A c D) (hi : i < D.length) (hO : Own w' lo w'.heap.size 24 1 A' (i + (D.length - (i + 1))) c' (thenV i (dvs D) (fun j => dvs D (i + 1 + j)))) : LD w' A' c' (D.eraseIdx i) := by
 have hl : (D.eraseIdx i).length = i + (D.length - (i + 1)) := by rw [List.length_eraseIdx_of_lt hi]; omega
 refine ⟨?_, fun d hd => h.rd.2 d (List.mem_of_mem_eraseIdx hd)⟩
 rw [hl]
 refine (hO.congr (fun j hj => ?_)).rdV
 unfold thenV dvs
 rw [getD_erase]
 by_cases hj2 : j < i
 ·rw [if_pos hj2, if_pos hj2]
 ·rw [if_neg hj2, if_neg hj2]
  show dv (D.getD (i + 1 + (j - i)) _) = _
  rw [show i + 1 + (j - i) = j + 1 by omega]
end Go.Proofs.YticadlkcjhglnaaGreat

/-
-/
namespace Go.Proofs.YticadlkcjhglnaaGreat
open Go.RowKit
def cfQ (f : FuncId) (s1 : Int) (m1 : Nat) (x1 : Nat → Int) (s2 : Int) (m2 : Nat) (x2 : Nat → Int) (t : ByteArray) (N : Nat) (X : Nat → Int) (is : Bool) : Prop := ∀ (W : World) (A1 A2 : Option Addr) (c1 c2 : Nat), GA W A1 m1 c1 x1 → GA W A2 m2 c2 x2 → Calls Tryz.prog f #[.agg #[.int .i64 s1, .slice A1 m1 c1], .agg #[.int .i64 s2, .slice A2 m2 c2], .string t] W fun e w' => ∃ (A' : Option Addr) (c' : Nat), e = .returned (.tuple #[.agg #[.int .i64 (N : Nat), .slice A' N c'], .bool is]) ∧ GA w' A' N c' X ∧ Below W.heap.size W w'
def ccQ (f : FuncId) (s1 : Int) (m1 : Nat) (x1 : Nat → Int) (s2 : Int) (m2 : Nat) (x2 : Nat → Int) (t : ByteArray) (z : Int) : Prop := ∀ (W : World) (A1 A2 : Option Addr) (c1 c2 : Nat), GA W A1 m1 c1 x1 → GA W A2 m2 c2 x2 → Calls Tryz.prog f #[.agg #[.int .i64 s1, .slice A1 m1 c1], .agg #[.int .i64 s2, .slice A2 m2 c2], .string t] W fun e w' => e = .returned (.int .i64 z) ∧ Below W.heap.size W w'
def ceQ (f : FuncId) (s1 : Int) (m1 : Nat) (x1 : Nat → Int) (s2 : Int) (m2 : Nat) (x2 : Nat → Int) (t : ByteArray) (F : List (List Int)) (is : Bool) : Prop := ∀ (W : World) (A1 A2 : Option Addr) (c1 c2 : Nat), GA W A1 m1 c1 x1 → GA W A2 m2 c2 x2 → Calls Tryz.prog f #[.agg #[.int .i64 s1, .slice A1 m1 c1], .agg #[.int .i64 s2, .slice A2 m2 c2], .string t] W fun e w' => ∃ (A' : Option Addr) (c' : Nat) (D : List Dsc), e = .returned (.tuple #[.slice A' D.length c', .bool is]) ∧ lists D = F ∧ LD w' A' c' D ∧ Below W.heap.size W w'
theorem lists_small {D : List Dsc} {F : List (List Int)} (h : lists D = F) (h1 : F.length ≤ 21) (h2 : ∀ l ∈ F, l.length = 2) : D.length ≤ 21 ∧ tot D ≤ 1073741824 := by
 have := sum_two h2
 rw [tot_eq h, this]
 have h3 : D.length = F.length := by rw [← h]; unfold lists; rw [List.length_map]
 omega
theorem sdw_pack (s1 : Int) (m1 : Nat) (x1 : Nat → Int) (s2 : Int) (m2 : Nat) (x2 : Nat → Int) (t : ByteArray) (hm1 : m1 ≤ 7) (hm2 : m2 ≤ 7) :
 ∃ (N : Nat) (X : Nat → Int) (is : Bool) (z : Int) (F : List (List Int)), N ≤ 7 ∧ decide (0 < z) = is ∧ (is = false → F = []) ∧ F.length ≤ 21 ∧ (∀ l ∈ F, l.length = 2) ∧
   (is = true → ∃ r, VG N r ∧ X = (fun j => (r j : Int)) ∧ wiB s1 m1 x1 N N (fun j => (r j : Int)) = true ∧ wiB N N (fun j => (r j : Int)) s2 m2 x2 = true ∧ isV r N t.toList = true ∧ ∀ l ∈ F, ∃ v u : Nat, l = [(v : Int), (u : Int)] ∧ v < N ∧ u < N ∧ (r v).testBit u = true) ∧
   cfQ 7 s1 m1 x1 s2 m2 x2 t N X is ∧ cfQ 8 s1 m1 x1 s2 m2 x2 t N X is ∧ ccQ 9 s1 m1 x1 s2 m2 x2 t z ∧ ccQ 13 s1 m1 x1 s2 m2 x2 t z ∧ ceQ 10 s1 m1 x1 s2 m2 x2 t F is ∧ ceQ 11 s1 m1 x1 s2 m2 x2 t F is := by
 have hN : fsN s1 m1 x1 s2 m2 x2 t.toList ≤ 7 := by
  unfold fsN
  split
  ·omega
  ·exact hm2
 refine ⟨fsN s1 m1 x1 s2 m2 x2 t.toList, fsX s1 m1 x1 s2 m2 x2 t.toList, (fsO s1 m1 x1 s2 m2 x2 t.toList).isSome, csI s1 m1 x1 s2 m2 x2 t.toList, foL s1 m1 x1 s2 m2 x2 t.toList, hN, csI_pos, fun h => ?_, Nat.le_trans foL_len (by omega), foL_two, fun h => ?_, ?_, ?_, ?_, ?_, ?_, ?_⟩
 ·unfold foL; rw [h]; rfl
 ·obtain ⟨b, hb⟩ := Option.isSome_iff_exists.1 h
  obtain ⟨r, vg, e, eX, h1, h2, h3, h4⟩ := fnd hb
  rw [e]
  exact ⟨r, vg, funext eX, h1, h2, h3, fun l hl => by
   obtain ⟨v, u, e1, e2, e3, e4⟩ := h4 l hl
   exact ⟨v, u, e1, by omega, e3, e4⟩⟩
 ·intro W A1 A2 c1 c2 h1 h2
  refine (FindSandwich_i s1 A1 m1 c1 x1 s2 A2 m2 c2 x2 t W h1 h2 (by omega) (by omega)).mono ?_
  rintro e w' ⟨A', c', he, ho, hb⟩
  exact ⟨A', c', he, ⟨ho.rd⟩, hb⟩
 ·intro W A1 A2 c1 c2 h1 h2
  refine (FindSandwich_s s1 A1 m1 c1 x1 s2 A2 m2 c2 x2 t W h1 h2 (by omega) (by omega)).mono ?_
  rintro e w' ⟨A', c', he, ho, hb⟩
  exact ⟨A', c', he, ⟨ho.rd⟩, hb⟩
 ·exact fun W A1 A2 c1 c2 h1 h2 => CountSandwiches_i s1 A1 m1 c1 x1 s2 A2 m2 c2 x2 t W h1 h2 (by omega) (by omega)
 ·exact fun W A1 A2 c1 c2 h1 h2 => CountSandwiches_s s1 A1 m1 c1 x1 s2 A2 m2 c2 x2 t W h1 h2 (by omega) (by omega)
 ·intro W A1 A2 c1 c2 h1 h2
  refine (ForcedEdges_i s1 A1 m1 c1 x1 s2 A2 m2 c2 x2 t W h1 h2 (by omega) (by omega)).mono ?_
  rintro e w' ⟨A', c', D, he, hl, ho, hb⟩
  exact ⟨A', c', D, he, hl, ⟨ho.rdD⟩, hb⟩
 ·intro W A1 A2 c1 c2 h1 h2
  refine (ForcedEdges_s s1 A1 m1 c1 x1 s2 A2 m2 c2 x2 t W h1 h2 (by omega) (by omega)).mono ?_
  rintro e w' ⟨A', c', D, he, hl, ho, hb⟩
  exact ⟨A', c', D, he, hl, ⟨ho.rdD⟩, hb⟩
theorem same_graphs {s : Int} {A1 A2 : Option Addr} {n c1 c2 : Nat} {x : Nat → Int} {W : World} (h1 : GA W A1 n c1 x) (h2 : GA W A2 n c2 x) (hn : n ≤ 1073741824) :
 Calls Tryz.prog 12 #[.agg #[.int .i64 s, .slice A1 n c1], .agg #[.int .i64 s, .slice A2 n c2]] W fun e w' => e = .returned (.bool true) ∧ Below W.heap.size W w' := by
 have := EqualGraphs_s s s A1 A2 n n c1 c2 x x W W.heap.size h1.rd h2.rd (Nat.le_refl _) hn hn
 rwa [gsl_rows, sl_yes (fun _ _ => rfl)] at this
theorem same_lists {A1 A2 : Option Addr} {c1 c2 : Nat} {D E : List Dsc} {F : List (List Int)} {W : World} (h1 : LD W A1 c1 D) (h2 : LD W A2 c2 E) (e1 : lists D = F) (e2 : lists E = F) (hF : F.length ≤ 21) (h2F : ∀ l ∈ F, l.length = 2) :
 Calls Tryz.prog 14 #[.slice A1 D.length c1, .slice A2 E.length c2] W fun e w' => e = .returned (.bool true) ∧ Below W.heap.size W w' := by
 have a := lists_small e1 hF h2F
 have b := lists_small e2 hF h2F
 have := sameLists_any A1 A2 c1 c2 D E W W.heap.size h1.rd h2.rd (Nat.le_refl _) (by omega) a.2 (by omega) b.2
 rwa [decide_eq_true (e1.trans e2.symm)] at this
theorem LD.pairAt {w : World} {A : Option Addr} {c k : Nat} {v u : Int} {D : List Dsc} (h : LD w A c D) (hk : (lists D)[k]? = some [v, u]) :
 ∃ b o gd od cd, A = some ⟨b, o, none⟩ ∧ w.cell? ⟨b, o + k, none⟩ = some (.slice (some ⟨gd, od, none⟩) 2 cd) ∧ w.cell? ⟨gd, od, none⟩ = some (.int .i64 v) ∧ w.cell? ⟨gd, od + 1, none⟩ = some (.int .i64 u) := by
 unfold lists at hk
 rw [List.getElem?_map, Option.map_eq_some_iff] at hk
 obtain ⟨⟨Ad, cd, l⟩, hd, e⟩ := hk
 simp only at e
 subst e
 obtain ⟨hlt, _⟩ := List.getElem?_eq_some_iff.1 hd
 obtain ⟨b, o, e1, _, hc⟩ := h.rd.1.2 (by omega)
 obtain ⟨gd, od, e2, _, hc2⟩ := (h.rd.2 _ (List.mem_of_getElem? hd)).2 (by show 0 < 2; omega)
 have e2' : Ad = some ⟨gd, od, none⟩ := e2
 subst e2'
 refine ⟨b, o, gd, od, cd, e1, ?_, hc2 0 (by show 0 < 2; omega), hc2 1 (by show 1 < 2; omega)⟩
 rw [hc k hlt]
 unfold dvs
 simp [List.getD, hd, dv]
end Go.Proofs.YticadlkcjhglnaaGreat

/-
-/
namespace Go.Proofs.YticadlkcjhglnaaGreat
open Go.RowKit
set_option maxHeartbeats 1000000 in
theorem IsSandwich_any (s1 s2 s3 : Int) (A1 A2 A3 : Option Addr) (m1 m2 m3 c1 c2 c3 : Nat) (x1 x2 x3 : Nat → Int) (w : World) (B : Nat) (h1 : Rd w B A1 m1 c1 x1) (h2 : Rd w B A2 m2 c2 x2) (h3 : Rd w B A3 m3 c3 x3) (hB : B ≤ w.heap.size) (hm1 : m1 ≤ 1048576) (hm2 : m2 ≤ 1048576) (hm3 : m3 ≤ 1048576) :
 Calls Tryz.prog 15 #[.agg #[.int .i64 s1, .slice A1 m1 c1], .agg #[.int .i64 s2, .slice A2 m2 c2], .agg #[.int .i64 s3, .slice A3 m3 c3]] w fun e w' => e = .returned (.bool (wiB s1 m1 x1 s3 m3 x3 && wiB s3 m3 x3 s2 m2 x2)) ∧ Below w.heap.size w w' := by
 obtain ⟨W, hW⟩ : ∃ W : World, W = (((w.alloc (Obj.cells #[Value.int IntKind.i64 s1, Value.slice A1 m1 c1] 26)).alloc (Obj.cells #[Value.int IntKind.i64 s2, Value.slice A2 m2 c2] 26)).alloc (Obj.cells #[Value.int IntKind.i64 s3, Value.slice A3 m3 c3] 26)) := ⟨_, rfl⟩
 have HB : Hid (Below w.heap.size w W) := by rw [hW]; exact (((Below.refl _ _).alloc (Nat.le_refl _) _).alloc (by simp) _).alloc (by simp; omega) _
 have hsz : w.heap.size + 1 + 1 < W.heap.size := by rw [hW]; simp
 have e2 : W.cell? ⟨w.heap.size + 1, 0, none⟩ = some (.int .i64 s2) := by rw [hW]; simp [go_sem]
 have e3 : W.cell? ⟨w.heap.size + 1, 1, none⟩ = some (.slice A2 m2 c2) := by rw [hW]; simp [go_sem]
 have e4 : W.cell? ⟨w.heap.size + 1 + 1, 0, none⟩ = some (.int .i64 s3) := by rw [hW]; simp [go_sem]
 have e5 : W.cell? ⟨w.heap.size + 1 + 1, 1, none⟩ = some (.slice A3 m3 c3) := by rw [hW]; simp [go_sem]
 have k1 := h1.keep (HB.out.mono hB) (Nat.le_refl _)
 have k2 := h2.keep (HB.out.mono hB) (Nat.le_refl _)
 have k3 := h3.keep (HB.out.mono hB) (Nat.le_refl _)
 have HW := Lib.hid hW
 clear hW h1 h2 h3
 go_enter Tryz.func15, Tryz.ntmps15
 go_wp2_with fail
 rw [← HW.out]
 refine (isWithin_any s1 s3 A1 A3 m1 m3 c1 c3 x1 x3 W B k1 k3 (by omega) hm1 hm3).mono ?_
 rintro e w1 ⟨rfl, hb1⟩
 have f2 := up hb1 e2 (by omega)
 have f3 := up hb1 e3 (by omega)
 have f4 := up hb1 e4 (by omega)
 have f5 := up hb1 e5 (by omega)
 have z1 := hb1.size
 have k2' := k2.keep (hb1.mono (by omega)) (Nat.le_refl _)
 have k3' := k3.keep (hb1.mono (by omega)) (Nat.le_refl _)
 have HB1 := Lib.hid (HB.out.trans (hb1.mono (by omega)))
 clear HW HB e2 e3 e4 e5 k1 k2 k3 hb1
 cases ho1 : wiB s1 m1 x1 s3 m3 x3
 ·have Ho1 := Lib.hid ho1
  clear ho1
  go_wp2
  go_ret
  exact ⟨ret_bool (by rw [Ho1.out]; rfl), HB1.out⟩
 ·have Ho1 := Lib.hid ho1
  clear ho1
  go_wp2_with fail
  refine (isWithin_any s3 s2 A3 A2 m3 m2 c3 c2 x3 x2 w1 B k3' k2' (by omega) hm3 hm2).mono ?_
  rintro e w2 ⟨rfl, hb2⟩
  have HB2 := Lib.hid (HB1.out.trans (hb2.mono (by omega)))
  clear HB1 f2 f3 f4 f5 k2' k3' hb2
  go_wp2
  go_ret
  exact ⟨ret_bool (by rw [Ho1.out, Bool.true_and]), HB2.out⟩
set_option maxHeartbeats 1000000 in
theorem IsSandwich_sany (s1 s2 s3 : Int) (A1 A2 A3 : Option Addr) (m1 m2 m3 c1 c2 c3 : Nat) (x1 x2 x3 : Nat → Int) (w : World) (B : Nat) (h1 : Rd w B A1 m1 c1 x1) (h2 : Rd w B A2 m2 c2 x2) (h3 : Rd w B A3 m3 c3 x3) (hB : B ≤ w.heap.size) (hm1 : m1 ≤ 1048576) (hm2 : m2 ≤ 1048576) (hm3 : m3 ≤ 1048576) :
 Calls Tryz.prog 22 #[.agg #[.int .i64 s1, .slice A1 m1 c1], .agg #[.int .i64 s2, .slice A2 m2 c2], .agg #[.int .i64 s3, .slice A3 m3 c3]] w fun e w' => e = .returned (.bool (wiB s1 m1 x1 s3 m3 x3 && wiB s3 m3 x3 s2 m2 x2)) ∧ Below w.heap.size w w' := by
 obtain ⟨W, hW⟩ : ∃ W : World, W = (((w.alloc (Obj.cells #[Value.int IntKind.i64 s1, Value.slice A1 m1 c1] 26)).alloc (Obj.cells #[Value.int IntKind.i64 s2, Value.slice A2 m2 c2] 26)).alloc (Obj.cells #[Value.int IntKind.i64 s3, Value.slice A3 m3 c3] 26)) := ⟨_, rfl⟩
 have HB : Hid (Below w.heap.size w W) := by rw [hW]; exact (((Below.refl _ _).alloc (Nat.le_refl _) _).alloc (by simp) _).alloc (by simp; omega) _
 have hsz : w.heap.size + 1 + 1 < W.heap.size := by rw [hW]; simp
 have e2 : W.cell? ⟨w.heap.size + 1, 0, none⟩ = some (.int .i64 s2) := by rw [hW]; simp [go_sem]
 have e3 : W.cell? ⟨w.heap.size + 1, 1, none⟩ = some (.slice A2 m2 c2) := by rw [hW]; simp [go_sem]
 have e4 : W.cell? ⟨w.heap.size + 1 + 1, 0, none⟩ = some (.int .i64 s3) := by rw [hW]; simp [go_sem]
 have e5 : W.cell? ⟨w.heap.size + 1 + 1, 1, none⟩ = some (.slice A3 m3 c3) := by rw [hW]; simp [go_sem]
 have k1 := h1.keep (HB.out.mono hB) (Nat.le_refl _)
 have k2 := h2.keep (HB.out.mono hB) (Nat.le_refl _)
 have k3 := h3.keep (HB.out.mono hB) (Nat.le_refl _)
 have HW := Lib.hid hW
 clear hW h1 h2 h3
 go_enter Tryz.func22, Tryz.ntmps22
 go_wp2_with fail
 rw [← HW.out]
 refine (l31Within_any s1 s3 A1 A3 m1 m3 c1 c3 x1 x3 W B k1 k3 (by omega) hm1 hm3).mono ?_
 rintro e w1 ⟨rfl, hb1⟩
 have f2 := up hb1 e2 (by omega)
 have f3 := up hb1 e3 (by omega)
 have f4 := up hb1 e4 (by omega)
 have f5 := up hb1 e5 (by omega)
 have z1 := hb1.size
 have k2' := k2.keep (hb1.mono (by omega)) (Nat.le_refl _)
 have k3' := k3.keep (hb1.mono (by omega)) (Nat.le_refl _)
 have HB1 := Lib.hid (HB.out.trans (hb1.mono (by omega)))
 clear HW HB e2 e3 e4 e5 k1 k2 k3 hb1
 cases ho1 : wiB s1 m1 x1 s3 m3 x3
 ·have Ho1 := Lib.hid ho1
  clear ho1
  go_wp2
  go_ret
  exact ⟨ret_bool (by rw [Ho1.out]; rfl), HB1.out⟩
 ·have Ho1 := Lib.hid ho1
  clear ho1
  go_wp2_with fail
  refine (l31Within_any s3 s2 A3 A2 m3 m2 c3 c2 x3 x2 w1 B k3' k2' (by omega) hm3 hm2).mono ?_
  rintro e w2 ⟨rfl, hb2⟩
  have HB2 := Lib.hid (HB1.out.trans (hb2.mono (by omega)))
  clear HB1 f2 f3 f4 f5 k2' k3' hb2
  go_wp2
  go_ret
  exact ⟨ret_bool (by rw [Ho1.out, Bool.true_and]), HB2.out⟩
end Go.Proofs.YticadlkcjhglnaaGreat

/-
-/
namespace Go.Proofs.YticadlkcjhglnaaGreat
open Go.RowKit
section
variable {A : Option Addr} {m c : Nat} {r : Nat → Nat} {w : World}
set_option maxHeartbeats 1000000 in
theorem HasEdge_sv (h : GV w A m c r) {v u : Nat} (hv : v < m) (hu : u < m) :
 Calls Tryz.prog 17 #[.agg #[.int .i64 m, .slice A m c], .int .i64 v, .int .i64 u] w fun e w' => e = .returned (.bool ((r v).testBit u)) ∧ Below w.heap.size w w' := by
 obtain ⟨t, ht⟩ : ∃ t, t = (r v).testBit u := ⟨_, rfl⟩
 have KE : Hid (∀ z A' c', GV z A' m c' r → Calls Tryz.prog 61 #[.agg #[.int .i64 m, .slice A' m c'], .int .i64 v, .int .i64 u] z fun e w' => e = .returned (.bool t) ∧ Below z.heap.size z w') := fun z A' c' h => by rw [ht]; exact l2Edge_v h hv hu
 rw [← ht]
 clear ht
 have i1 : (v : Int) < (m : Int) := by omega
 have i2 : (u : Int) < (m : Int) := by omega
 obtain ⟨W, hW⟩ : ∃ W : World, W = (w.alloc (Obj.cells #[Value.int IntKind.i64 m, Value.slice A m c] 26)) := ⟨_, rfl⟩
 have HB : Hid (From w W) := by rw [hW]; exact From.alloc _ _
 have HG : Hid (GBox W w.heap.size A m c r) := by rw [hW]; exact h.box
 have HW := Lib.hid hW
 clear hW h
 have e0 := HG.out.c0
 have e1 := HG.out.c1
 go_enter Tryz.func17, Tryz.ntmps17
 go_wp2_with fail
 rw [← HW.out]
 refine (IsGraph_sv HG.out.gv).mono ?_
 rintro e w1 ⟨rfl, hb1⟩
 clear HW
 clear e0 e1
 replace HB := Lib.hid (HB.out.keep hb1)
 replace HG := Lib.hid (HG.out.keep hb1)
 clear hb1
 have e0 := HG.out.c0
 have e1 := HG.out.c1
 go_wp2_with fail
 refine (KE.out _ _ _ HG.out.gv).mono ?_
 rintro e w2 ⟨rfl, hb2⟩
 clear e0 e1
 replace HB := Lib.hid (HB.out.keep hb2)
 replace HG := Lib.hid (HG.out.keep hb2)
 clear hb2
 have e0 := HG.out.c0
 have e1 := HG.out.c1
 go_wp2
 go_ret
 exact ⟨rfl, HB.out.below⟩
end
end Go.Proofs.YticadlkcjhglnaaGreat
