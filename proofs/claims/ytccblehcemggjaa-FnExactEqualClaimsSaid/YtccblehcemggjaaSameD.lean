/-
  Contracts: are two slices of slices of integers the same? The program's and the reference's tests.
-/
import Derived.Test.YtccblehcemggjaaSameG
namespace Go.Proofs.Ytccblehcemggjaa
open Go.RowKit

theorem lists_eq {D E : List Dsc} (hlen : D.length = E.length) (h : ∀ j, j < D.length → (D.getD j (none, 0, [])).2.2 = (E.getD j (none, 0, [])).2.2) : lists D = lists E := by
  unfold lists
  refine List.ext_getElem (by simp [hlen]) fun i hi hi' => ?_
  simp at hi hi'
  have := h i hi
  simpa [List.getD, hi, hi'] using this
theorem lists_ne {D E : List Dsc} (j : Nat) (hj : j < D.length) (hj' : j < E.length) (h : (D.getD j (none, 0, [])).2.2 ≠ (E.getD j (none, 0, [])).2.2) : lists D ≠ lists E := by
  intro e
  apply h
  have := congrArg (fun l => l[j]?) e
  simpa [lists, List.getD, hj, hj'] using this
theorem dvs_atD {D : List Dsc} {j : Nat} (h : j < D.length) : D[j]? = some (D.getD j (none, 0, [])) ∧ D.getD j (none, 0, []) ∈ D ∧ dvs D j = dv (D.getD j (none, 0, [])) := by
  obtain ⟨d, h1, h2, h3⟩ := dvs_at h
  have : D.getD j (none, 0, []) = d := by simp [List.getD, h1]
  rw [this]
  exact ⟨h1, h2, h3⟩

set_option maxHeartbeats 1000000 in
theorem l33SameEdges_any (A1 A2 : Option Addr) (c1 c2 : Nat) (D E : List Dsc) (w : World) (B : Nat) (h1 : RdD w B A1 c1 D) (h2 : RdD w B A2 c2 E) (hB : B ≤ w.heap.size) (hn : D.length ≤ 1073741824) (ht : tot D ≤ 1073741824) (hn2 : E.length ≤ 1073741824) (ht2 : tot E ≤ 1073741824) :
    Calls Try.prog 88 #[.slice A1 D.length c1, .slice A2 E.length c2] w fun e w' => e = .returned (.bool (decide (lists D = lists E))) ∧ Below w.heap.size w w' := by
  obtain ⟨n, hnn⟩ : ∃ n, n = D.length := ⟨_, rfl⟩
  by_cases hle : D.length = E.length
  rotate_left
  · have e : Hid (decide (lists D = lists E) = false) := decide_eq_false fun h => hle (len_lists h)
    obtain ⟨n2, hnn2⟩ : ∃ n, n = E.length := ⟨_, rfl⟩
    rw [← hnn] at hn hle ⊢
    rw [← hnn2] at hn2 hle ⊢
    have hne' : (n : Int) ≠ (n2 : Int) := by omega
    clear h1 h2
    go_enter Try.func88, Try.ntmps88
    go_wp2
    go_ret
    exact ⟨ret_bool e.out.symm, Below.refl _ _⟩
  rw [← hle]
  rw [← hnn] at hn hle ⊢
  have Hn := Lib.hid hnn
  have Hl := Lib.hid hle
  clear hnn hle hn2
  go_enter Try.func88, Try.ntmps88
  go_wp2
  go_loopw [5] (fun i wr => ∃ k : Nat, k ≤ n ∧ i = .int .i64 k ∧ Hid (∀ j, j < k → (D.getD j (none, 0, [])).2.2 = (E.getD j (none, 0, [])).2.2) ∧ Below w.heap.size w wr) (fun i _ => n - (intOf i).toNat)
  case atStart => exact ⟨0, Nat.zero_le _, rfl, (fun j hj => absurd hj (by omega)), Below.refl _ _⟩
  case round =>
    obtain ⟨k, hk, rfl, hall, hbr⟩ := hrel
    by_cases hlt : k < n
    · have hkD : k < D.length := by rw [← Hn.out]; exact hlt
      have hkE : k < E.length := by rw [← Hl.out]; exact hlt
      obtain ⟨hd, hm, hdv⟩ := dvs_atD hkD
      obtain ⟨hd', hm', hdv'⟩ := dvs_atD hkE
      obtain ⟨d, hdd⟩ : ∃ d, d = D.getD k (none, 0, []) := ⟨_, rfl⟩
      obtain ⟨d', hdd'⟩ : ∃ d, d = E.getD k (none, 0, []) := ⟨_, rfl⟩
      have Hs : Hid (d.2.2 = d'.2.2 → ∀ j, j < k + 1 → (D.getD j (none, 0, [])).2.2 = (E.getD j (none, 0, [])).2.2) := by
        intro h j hj
        by_cases hjk : j < k
        · exact hall.out j hjk
        · obtain rfl : j = k := by omega
          rw [← hdd, ← hdd']; exact h
      have Hx : Hid (d.2.2 ≠ d'.2.2 → decide (lists D = lists E) = false) := fun h => decide_eq_false (lists_ne k hkD hkE (by rw [← hdd, ← hdd']; exact h))
      rw [← hdd] at hd hm hdv
      rw [← hdd'] at hd' hm' hdv'
      have r1 := (h1.2 d hm).keep (hbr.drew.mono hB) (Nat.le_refl _)
      have r2 := (h2.2 d' hm').keep (hbr.drew.mono hB) (Nat.le_refl _)
      obtain ⟨b1, o1, rfl, l1, c1'⟩ := h1.1.2 (by rw [← Hn.out]; omega)
      obtain ⟨b2, o2, rfl, l2, c2'⟩ := h2.1.2 (by rw [← Hl.out]; omega)
      have f1 := (hbr.cell (p := ⟨b1, o1 + k, none⟩) (by show b1 < _; omega)).trans (c1' k hkD)
      have f2 := (hbr.cell (p := ⟨b2, o2 + k, none⟩) (by show b2 < _; omega)).trans (c2' k hkE)
      rw [hdv] at f1
      rw [hdv'] at f2
      have hm7 : d.2.2.length ≤ 1073741824 := by
        have h3 := tot_take_le D (k + 1)
        rw [take_at hd, tot_snoc] at h3
        omega
      have hm8 : d'.2.2.length ≤ 1073741824 := by
        have h3 := tot_take_le E (k + 1)
        rw [take_at hd', tot_snoc] at h3
        omega
      have hsl := sl_list d.2.2 d'.2.2
      obtain ⟨da, dc, dl⟩ := d
      obtain ⟨ea, ec, el⟩ := d'
      simp only [dv] at f1 f2 r1 r2 hm7 hm8 hsl Hs Hx
      have i1 : (k : Int) < (n : Int) := by omega
      have hz := hbr.size
      have K := Lib.hid (fun z (hb : Below wr.drew.heap.size wr.drew z) => l8Same_any da ea dl.length el.length dc ec _ _ z B (r1.keep (hb.mono (Nat.le_trans hB hz)) (Nat.le_refl _)) (r2.keep (hb.mono (Nat.le_trans hB hz)) (Nat.le_refl _)) (Nat.le_trans hB (Nat.le_trans hz hb.size)) hm7 hm8)
      simp only [hsl] at K
      clear c1' c2' h1 h2 hd hd' hm hm' hdv hdv' r1 r2 hsl hdd hdd' hkD hkE
      obtain ⟨m, hm2⟩ : ∃ m, m = dl.length := ⟨_, rfl⟩
      obtain ⟨m', hm2'⟩ : ∃ m, m = el.length := ⟨_, rfl⟩
      rw [← hm2] at f1 hm7 K
      rw [← hm2'] at f2 hm8 K
      clear hm2 hm2'
      go_wp2_with fail
      by_cases hq : dl = el
      · have hqd : decide (dl = el) = true := decide_eq_true hq
        rw [hqd] at K
        have HQ := Lib.hid (Hs.out hq)
        clear hqd hq Hs Hx
        go_region_held3 (fun z => z.cell? ⟨b1, o1 + k, none⟩ = some (.slice da m dc) ∧ z.cell? ⟨b2, o2 + k, none⟩ = some (.slice ea m' ec))
          (first | (refine ⟨?_, ?_⟩ <;> assumption) | (refine ⟨?_, ?_⟩ <;> (refine (hb.cell (by first | (show b1 < wr.heap.size; omega) | (show b2 < wr.heap.size; omega))).trans ?_; assumption)))
          ((go_at_call 87; (refine (K.out _ (Below.refl _ _)).mono ?_); rintro e w1 ⟨rfl, hb⟩))
        have HB := Lib.hid (hbr.drew.trans (hb.mono hbr.size))
        clear f1 f2 hb hbr
        go_wp2
        go_roundw
        case rel => exact ⟨k + 1, by omega, by go_num, HQ, HB.out⟩
        case measure => simp [intOf]; omega
      · have hqd : decide (dl = el) = false := decide_eq_false hq
        rw [hqd] at K
        have HQ := Lib.hid (Hx.out hq)
        clear hqd hq Hs Hx
        go_region_held3 (fun z => z.cell? ⟨b1, o1 + k, none⟩ = some (.slice da m dc) ∧ z.cell? ⟨b2, o2 + k, none⟩ = some (.slice ea m' ec))
          (first | (refine ⟨?_, ?_⟩ <;> assumption) | (refine ⟨?_, ?_⟩ <;> (refine (hb.cell (by first | (show b1 < wr.heap.size; omega) | (show b2 < wr.heap.size; omega))).trans ?_; assumption)))
          ((go_at_call 87; (refine (K.out _ (Below.refl _ _)).mono ?_); rintro e w1 ⟨rfl, hb⟩))
        have HB := Lib.hid (hbr.drew.trans (hb.mono hbr.size))
        clear f1 f2 hb hbr
        go_wp2
        go_ret
        exact ⟨ret_bool HQ.out.symm, HB.out⟩
    · have hge : (n : Int) ≤ (k : Int) := by omega
      have HB := Lib.hid hbr
      have e : Hid (decide (lists D = lists E) = true) := decide_eq_true (lists_eq (Hn.out ▸ Hl.out) fun j hj => hall.out j (by rw [← Hn.out] at hj; omega))
      clear hbr h1 h2
      go_wp2
      go_ret
      exact ⟨ret_bool e.out.symm, HB.out⟩

set_option maxHeartbeats 1000000 in
theorem EqualFunc_any (A1 A2 : Option Addr) (c1 c2 : Nat) (D E : List Dsc) (w : World) (B : Nat) (h1 : RdD w B A1 c1 D) (h2 : RdD w B A2 c2 E) (hB : B ≤ w.heap.size) (hn : D.length ≤ 1073741824) (ht : tot D ≤ 1073741824) (hn2 : E.length ≤ 1073741824) (ht2 : tot E ≤ 1073741824) :
    Calls Try.prog 91 #[.slice A1 D.length c1, .slice A2 E.length c2, .func (.func 90) #[] #[]] w fun e w' => e = .returned (.bool (decide (lists D = lists E))) ∧ Below w.heap.size w w' := by
  obtain ⟨n, hnn⟩ : ∃ n, n = D.length := ⟨_, rfl⟩
  by_cases hle : D.length = E.length
  rotate_left
  · have e : Hid (decide (lists D = lists E) = false) := decide_eq_false fun h => hle (len_lists h)
    obtain ⟨n2, hnn2⟩ : ∃ n, n = E.length := ⟨_, rfl⟩
    rw [← hnn] at hn hle ⊢
    rw [← hnn2] at hn2 hle ⊢
    have hne' : (n : Int) ≠ (n2 : Int) := by omega
    clear h1 h2
    go_enter Try.func91, Try.ntmps91
    go_wp2
    go_ret
    exact ⟨ret_bool e.out.symm, Below.refl _ _⟩
  rw [← hle]
  rw [← hnn] at hn hle ⊢
  have Hn := Lib.hid hnn
  have Hl := Lib.hid hle
  clear hnn hle hn2
  go_enter Try.func91, Try.ntmps91
  go_wp2
  go_loopw [17] (fun i wr => ∃ k : Nat, k ≤ n ∧ i = .int .i64 k ∧ Hid (∀ j, j < k → (D.getD j (none, 0, [])).2.2 = (E.getD j (none, 0, [])).2.2) ∧ Below w.heap.size w wr) (fun i _ => n - (intOf i).toNat)
  case atStart => exact ⟨0, Nat.zero_le _, rfl, (fun j hj => absurd hj (by omega)), Below.refl _ _⟩
  case round =>
    obtain ⟨k, hk, rfl, hall, hbr⟩ := hrel
    by_cases hlt : k < n
    · have hkD : k < D.length := by rw [← Hn.out]; exact hlt
      have hkE : k < E.length := by rw [← Hl.out]; exact hlt
      obtain ⟨hd, hm, hdv⟩ := dvs_atD hkD
      obtain ⟨hd', hm', hdv'⟩ := dvs_atD hkE
      obtain ⟨d, hdd⟩ : ∃ d, d = D.getD k (none, 0, []) := ⟨_, rfl⟩
      obtain ⟨d', hdd'⟩ : ∃ d, d = E.getD k (none, 0, []) := ⟨_, rfl⟩
      have Hs : Hid (d.2.2 = d'.2.2 → ∀ j, j < k + 1 → (D.getD j (none, 0, [])).2.2 = (E.getD j (none, 0, [])).2.2) := by
        intro h j hj
        by_cases hjk : j < k
        · exact hall.out j hjk
        · obtain rfl : j = k := by omega
          rw [← hdd, ← hdd']; exact h
      have Hx : Hid (d.2.2 ≠ d'.2.2 → decide (lists D = lists E) = false) := fun h => decide_eq_false (lists_ne k hkD hkE (by rw [← hdd, ← hdd']; exact h))
      rw [← hdd] at hd hm hdv
      rw [← hdd'] at hd' hm' hdv'
      have hz := hbr.size
      have r1 := (h1.2 d hm).keep (hbr.mono hB) (Nat.le_refl _)
      have r2 := (h2.2 d' hm').keep (hbr.mono hB) (Nat.le_refl _)
      obtain ⟨b1, o1, rfl, l1, c1'⟩ := h1.1.2 (by rw [← Hn.out]; omega)
      obtain ⟨b2, o2, rfl, l2, c2'⟩ := h2.1.2 (by rw [← Hl.out]; omega)
      have f1 := (hbr.cell (p := ⟨b1, o1 + k, none⟩) (by show b1 < _; omega)).trans (c1' k hkD)
      have f2 := (hbr.cell (p := ⟨b2, o2 + k, none⟩) (by show b2 < _; omega)).trans (c2' k hkE)
      rw [hdv] at f1
      rw [hdv'] at f2
      have hm7 : d.2.2.length ≤ 1073741824 := by
        have h3 := tot_take_le D (k + 1)
        rw [take_at hd, tot_snoc] at h3
        omega
      have hm8 : d'.2.2.length ≤ 1073741824 := by
        have h3 := tot_take_le E (k + 1)
        rw [take_at hd', tot_snoc] at h3
        omega
      have hsl := sl_list d.2.2 d'.2.2
      obtain ⟨da, dc, dl⟩ := d
      obtain ⟨ea, ec, el⟩ := d'
      simp only [dv] at f1 f2 r1 r2 hm7 hm8 hsl Hs Hx
      have i1 : (k : Int) < (n : Int) := by omega
      have K := Lib.hid (Equal_any da ea dl.length el.length dc ec _ _ wr B r1 r2 (Nat.le_trans hB hz) hm7 hm8)
      simp only [hsl] at K
      clear c1' c2' h1 h2 hd hd' hm hm' hdv hdv' r1 r2 hsl hdd hdd' hkD hkE
      obtain ⟨m, hm2⟩ : ∃ m, m = dl.length := ⟨_, rfl⟩
      obtain ⟨m', hm2'⟩ : ∃ m, m = el.length := ⟨_, rfl⟩
      rw [← hm2] at f1 hm7 K
      rw [← hm2'] at f2 hm8 K
      clear hm2 hm2'
      by_cases hq : dl = el
      · have hqd : decide (dl = el) = true := decide_eq_true hq
        rw [hqd] at K
        have HQ := Lib.hid (Hs.out hq)
        clear hqd hq Hs Hx
        go_wp2_with fail
        refine K.out.mono ?_
        rintro e w1 ⟨rfl, hb⟩
        have HB := Lib.hid (hbr.trans (hb.mono hbr.size))
        clear f1 f2 hb hbr
        go_wp2
        go_roundw
        case rel => exact ⟨k + 1, by omega, by go_num, HQ, HB.out⟩
        case measure => simp [intOf]; omega
      · have hqd : decide (dl = el) = false := decide_eq_false hq
        rw [hqd] at K
        have HQ := Lib.hid (Hx.out hq)
        clear hqd hq Hs Hx
        go_wp2_with fail
        refine K.out.mono ?_
        rintro e w1 ⟨rfl, hb⟩
        have HB := Lib.hid (hbr.trans (hb.mono hbr.size))
        clear f1 f2 hb hbr
        go_wp2
        go_ret
        exact ⟨ret_bool HQ.out.symm, HB.out⟩
    · have hge : (n : Int) ≤ (k : Int) := by omega
      have HB := Lib.hid hbr
      have e : Hid (decide (lists D = lists E) = true) := decide_eq_true (lists_eq (Hn.out ▸ Hl.out) fun j hj => hall.out j (by rw [← Hn.out] at hj; omega))
      clear hbr h1 h2
      go_wp2
      go_ret
      exact ⟨ret_bool e.out.symm, HB.out⟩
end Go.Proofs.Ytccblehcemggjaa
