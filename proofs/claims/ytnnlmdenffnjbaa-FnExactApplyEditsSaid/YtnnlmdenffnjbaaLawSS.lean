/-
  Contracts of the law's helpers on slices of slices of integers.
-/
import Derived.Test.YtnnlmdenffnjbaaSS
import Derived.Deep.RegionHeld3
namespace Go.Proofs.Ytnnlmdenffnjbaa
open Go.RowKit

/-- How many numbers there are in all. -/
def tot (D : List Dsc) : Nat := (D.map fun d => d.2.2.length).sum
theorem tot_snoc (D : List Dsc) (d : Dsc) : tot (D ++ [d]) = tot D + d.2.2.length := by simp [tot]
theorem tot_cons (d : Dsc) (D : List Dsc) : tot (d :: D) = d.2.2.length + tot D := by simp [tot]
theorem take_at {D : List Dsc} {k : Nat} {d : Dsc} (h : D[k]? = some d) : D.take (k + 1) = D.take k ++ [d] := by
  rw [List.take_add_one, h]; rfl
theorem tot_take_le (D : List Dsc) (k : Nat) : tot (D.take k) ≤ tot D := by
  conv => rhs; rw [← List.take_append_drop k D]
  unfold tot
  rw [List.map_append, List.sum_append]
  exact Nat.le_add_right _ _
theorem tot_lists {D E : List Dsc} (h : lists D = lists E) : tot D = tot E := by
  have : ∀ D : List Dsc, tot D = ((lists D).map List.length).sum := fun D => by simp [tot, lists, Function.comp_def]
  rw [this, this, h]
theorem len_lists {D E : List Dsc} (h : lists D = lists E) : D.length = E.length := by
  have := congrArg List.length h
  simpa [lists] using this
theorem lists_at {D E : List Dsc} (h : lists D = lists E) {k : Nat} {d e : Dsc} (hd : D[k]? = some d) (he : E[k]? = some e) : d.2.2 = e.2.2 := by
  have := congrArg (fun l => l[k]?) h
  simpa [lists, hd, he] using this

set_option maxHeartbeats 1000000 in
theorem szIntSS_max (A : Option Addr) (c : Nat) (D : List Dsc) (left : Int) (w : World) (B : Nat) (h : RdD w B A c D) (hn : D.length ≤ maxLen) (hl : ∀ d ∈ D, d.2.2.length ≤ maxLen) (h0 : 0 ≤ left) (h1 : left ≤ 1048576) :
    Calls Try.prog 23 #[.slice A D.length c, .int .i64 left] w fun e w' => e = .returned (.int .i64 (szl left (D.length + tot D))) ∧ w = w' := by
  obtain ⟨n, hnn⟩ : ∃ n, n = D.length := ⟨_, rfl⟩
  rw [← hnn] at hn ⊢
  have Hn := Lib.hid hnn
  have hn' := hn
  unfold maxLen at hn'
  clear hnn hn
  by_cases hlt : left < n
  · have h' : left - n < 0 := by omega
    have he : Hid (szl left (n + tot D) = -1) := by show szl left (n + tot D) = -1; unfold szl; rw [if_pos (by omega)]
    go_enter Try.func23, Try.ntmps23
    go_wp2
    go_ret
    exact ⟨ret_int he.out.symm, rfl⟩
  have h' : 0 ≤ left - n := by omega
  go_enter Try.func23, Try.ntmps23
  go_wp2
  go_loop [1, 5] (fun l i => ∃ k : Nat, k ≤ n ∧ i = .int .i64 k ∧ ∃ t : Nat, l = .int .i64 (left - n - t) ∧ (t : Int) ≤ left - n ∧ Hid (t = tot (D.take k))) (fun _ i => n - (intOf i).toNat)
  case atStart => exact ⟨0, Nat.zero_le _, rfl, 0, by go_num, by omega, by simp [Hid, tot]⟩
  case round =>
    obtain ⟨k, hk, rfl, t, rfl, ht, hT⟩ := hrel
    by_cases hkn : k < n
    · obtain ⟨d, hd, hm, hdv⟩ := dvs_at (D := D) (j := k) (by rw [← Hn.out]; exact hkn)
      obtain ⟨b, o, rfl, lb, hc⟩ := h.1.2 (by rw [← Hn.out]; omega)
      have f1 := hc k (by rw [← Hn.out]; exact hkn)
      rw [hdv] at f1
      have hlen := hl d hm
      have hts := take_at hd
      have htl := tot_take_le D (k + 1)
      rw [hts, tot_snoc, ← hT.out] at htl
      obtain ⟨da, dc, dl⟩ := d
      simp only [dv] at f1 hlen htl
      obtain ⟨m, hm2⟩ : ∃ m, m = dl.length := ⟨_, rfl⟩
      rw [← hm2] at f1 hlen htl
      have Hts : Hid (tot (D.take (k + 1)) = t + m) := by show tot (D.take (k + 1)) = t + m; rw [hts, tot_snoc, ← hT.out, hm2]
      have e0 : 0 ≤ left - n - t := by omega
      have e1 : left - n - t ≤ 1048576 := by omega
      by_cases hlt2 : left - n - t < m
      · have he : Hid (szl left (n + tot D) = -1) := by show szl left (n + tot D) = -1; unfold szl; rw [if_pos (by omega)]
        have q1 : szl (left - n - t) m = -1 := by unfold szl; rw [if_pos hlt2]
        clear hc h hts hd hdv hl hm2 hm htl
        go_wp2_with fail
        refine (szIntS_max da m dc (left - n - t) w hlen e0 e1).mono ?_
        rw [q1]
        clear q1
        rintro e w' ⟨rfl, rfl⟩
        go_wp2
        go_ret
        exact ⟨ret_int he.out.symm, rfl⟩
      · have q1 : szl (left - n - t) m = left - n - t - m := by unfold szl; rw [if_neg hlt2]
        have q2 : 0 ≤ left - n - t - m := by omega
        clear hc h hts hd hdv hl hm2 hm htl
        go_wp2_with fail
        refine (szIntS_max da m dc (left - n - t) w hlen e0 e1).mono ?_
        rw [q1]
        clear q1
        rintro e w' ⟨rfl, rfl⟩
        go_wp2
        go_round
        case rel => exact ⟨k + 1, by omega, by go_num, t + m, congrArg (Value.int .i64) (by omega), by omega, Hts.out.symm⟩
        case measure => simp [intOf]; omega
    · have he : Hid (szl left (n + tot D) = left - n - t) := by
        show szl left (n + tot D) = left - n - t
        have : tot D = t := by rw [hT.out, List.take_of_length_le (by rw [← Hn.out]; omega)]
        unfold szl
        rw [this, if_neg (by omega)]
        omega
      have hge : (n : Int) ≤ (k : Int) := by omega
      clear h hl
      go_wp2
      go_ret
      exact ⟨ret_int he.out.symm, rfl⟩

set_option maxHeartbeats 1000000 in
theorem eqIntSS_yes (A1 A2 : Option Addr) (c1 c2 : Nat) (D E : List Dsc) (w : World) (B1 B2 : Nat) (h1 : RdD w B1 A1 c1 D) (h2 : RdD w B2 A2 c2 E) (hB1 : B1 ≤ w.heap.size) (hB2 : B2 ≤ w.heap.size) (hl : lists D = lists E) (hn : D.length ≤ 1073741824) (ht : tot D ≤ 1073741824) :
    Calls Try.prog 27 #[.slice A1 D.length c1, .slice A2 E.length c2] w fun e w' => e = .returned (.bool true) ∧ Below w.heap.size w w' := by
  have hle := len_lists hl
  rw [← hle]
  obtain ⟨n, hnn⟩ : ∃ n, n = D.length := ⟨_, rfl⟩
  rw [← hnn] at hn hle ⊢
  have Hn := Lib.hid hnn
  have Hl := Lib.hid hle
  have HL := Lib.hid hl
  clear hnn hle hl
  go_enter Try.func27, Try.ntmps27
  go_wp2
  go_loopw [5] (fun i wr => ∃ k : Nat, k ≤ n ∧ i = .int .i64 k ∧ Below w.heap.size w wr) (fun i _ => n - (intOf i).toNat)
  case atStart => exact ⟨0, Nat.zero_le _, rfl, Below.refl _ _⟩
  case round =>
    obtain ⟨k, hk, rfl, hbr⟩ := hrel
    by_cases hlt : k < n
    · obtain ⟨d, hd, hm, hdv⟩ := dvs_at (D := D) (j := k) (by rw [← Hn.out]; exact hlt)
      obtain ⟨d', hd', hm', hdv'⟩ := dvs_at (D := E) (j := k) (by rw [← Hl.out]; exact hlt)
      have r1 := (h1.2 d hm).keep (hbr.drew.mono hB1) (Nat.le_refl _)
      have r2 := (h2.2 d' hm').keep (hbr.drew.mono hB2) (Nat.le_refl _)
      have hdd := lists_at HL.out hd hd'
      obtain ⟨b1, o1, rfl, l1, c1'⟩ := h1.1.2 (by rw [← Hn.out]; omega)
      obtain ⟨b2, o2, rfl, l2, c2'⟩ := h2.1.2 (by rw [← Hl.out]; omega)
      have f1 := (hbr.cell (p := ⟨b1, o1 + k, none⟩) (by show b1 < _; omega)).trans (c1' k (by rw [← Hn.out]; exact hlt))
      have f2 := (hbr.cell (p := ⟨b2, o2 + k, none⟩) (by show b2 < _; omega)).trans (c2' k (by rw [← Hl.out]; exact hlt))
      rw [hdv] at f1
      rw [hdv'] at f2
      have hm7 : d.2.2.length ≤ 1073741824 := by
        have h3 := tot_take_le D (k + 1)
        rw [take_at hd, tot_snoc] at h3
        omega
      obtain ⟨da, dc, dl⟩ := d
      obtain ⟨ea, ec, el⟩ := d'
      simp only [dv] at f1 f2 hdd r1 r2 hm7
      subst hdd
      have i1 : (k : Int) < (n : Int) := by omega
      have hz := hbr.size
      have R1 := Lib.hid r1
      have R2 := Lib.hid r2
      clear c1' c2' h1 h2 hd hd' hm hm' hdv hdv' r1 r2
      obtain ⟨m, hm2⟩ : ∃ m, m = dl.length := ⟨_, rfl⟩
      rw [← hm2] at f1 f2 hm7 R1 R2
      clear hm2
      go_wp2_with fail
      go_region_held3 (fun z => z.cell? ⟨b1, o1 + k, none⟩ = some (.slice da m dc) ∧ z.cell? ⟨b2, o2 + k, none⟩ = some (.slice ea m ec))
        (first | (refine ⟨?_, ?_⟩ <;> assumption) | (refine ⟨?_, ?_⟩ <;> (refine (hb.cell (by first | (show b1 < wr.heap.size; omega) | (show b2 < wr.heap.size; omega))).trans ?_; assumption)))
        ((go_at_call 38; (refine (eqIntS_yes _ _ _ _ _ _ _ _ _ R1.out R2.out (Nat.le_trans hB1 hz) (Nat.le_trans hB2 hz) (by omega)).mono ?_); rintro e w1 ⟨rfl, hb⟩))
      have HB := Lib.hid (hbr.drew.trans (hb.mono hbr.size))
      clear f1 f2 hb hbr
      go_wp2
      go_roundw
      case rel => exact ⟨k + 1, by omega, by go_num, HB.out⟩
      case measure => simp [intOf]; omega
    · have hge : (n : Int) ≤ (k : Int) := by omega
      have HB := Lib.hid hbr
      clear hbr h1 h2
      go_wp2
      go_ret
      exact ⟨rfl, HB.out⟩

/-- The outer cells behind j rounds of the copy. -/
def cpd (E : List Dsc) : Nat → Value := fun i => if i < E.length then dvs E i else .slice none 0 0
theorem cpd_succ (E : List Dsc) (d : Dsc) : (fun i => if i = E.length then dv d else cpd E i) = cpd (E ++ [d]) := by
  funext i
  unfold cpd
  rw [List.length_append, List.length_singleton]
  by_cases h : i = E.length
  · subst h; rw [if_pos rfl, if_pos (by omega), dvs_last]
  · rw [if_neg h]
    by_cases h2 : i < E.length
    · rw [if_pos h2, if_pos (by omega), dvs_left h2]
    · rw [if_neg h2, if_neg (by omega)]

set_option maxHeartbeats 1000000 in
theorem toIntSS_any (A : Option Addr) (c : Nat) (D : List Dsc) (w : World) (B : Nat) (h : RdD w B A c D) (hB : B ≤ w.heap.size) (hn : D.length ≤ 1048576) (ht : tot D ≤ 1048576) :
    Calls Try.prog 25 #[.slice A D.length c] w fun e w' => ∃ (g : Nat) (E : List Dsc), w.heap.size ≤ g ∧ e = .returned (.slice (some ⟨g, 0, none⟩) E.length E.length) ∧ lists E = lists D ∧ OwnD w' w.heap.size w'.heap.size (some ⟨g, 0, none⟩) E.length E ∧ Below w.heap.size w w' := by
  obtain ⟨n, hnn⟩ : ∃ n, n = D.length := ⟨_, rfl⟩
  rw [← hnn] at hn ⊢
  have Hn := Lib.hid hnn
  clear hnn
  have hmk := fun W => run_make_row' (P := Try.prog) 39 22 (.slice none 0 0) 24 Try.underlying39 info_ints rfl .i64 .i64 n (by omega) (by omega) W
  go_enter Try.func25, Try.ntmps25
  go_wp2
  clear hmk
  go_loopw [4] (fun i wr => ∃ E : List Dsc, E.length ≤ n ∧ i = .int .i64 E.length ∧ Hid (lists E = lists (D.take E.length)) ∧ Own wr w.heap.size (w.heap.size + 1) 22 1 (some ⟨w.heap.size, 0, none⟩) n n (cpd E) ∧ Hid (∀ d ∈ E, Own wr (w.heap.size + 1) wr.heap.size 3 1 d.1 d.2.2.length d.2.1 (ii d.2.2)) ∧ Hid (Apart E) ∧ Below w.heap.size w wr ∧ w.heap.size < wr.heap.size) (fun i _ => n - (intOf i).toNat)
  case atStart =>
    refine ⟨[], Nat.zero_le _, rfl, by simp [Hid, lists], ?_, (fun d hd => by cases hd), List.Pairwise.nil, (Below.refl _ _).alloc (Nat.le_refl _) _, by simp⟩
    obtain ⟨cc, q1, q2, q3⟩ := World.rowIs_made w (.slice none 0 0) n 22
    exact .inr ⟨_, cc, rfl, Nat.le_refl _, Nat.lt_succ_self _, q1, Nat.le_refl _, by unfold maxLen; omega, by omega, fun j hj => by rw [q3 j (by omega)]; simp [cpd]⟩
  case round =>
    obtain ⟨E, hE, rfl, hL, hown, hin, hap, hbr, hz⟩ := hrel
    obtain ⟨j, hj⟩ : ∃ j, j = E.length := ⟨_, rfl⟩
    rw [← hj] at hE hL ⊢
    have Hj := Lib.hid hj
    by_cases hlt : j < n
    · obtain ⟨d, hd, hm, hdv⟩ := dvs_at (D := D) (j := j) (by rw [← Hn.out]; exact hlt)
      have r1 := (h.2 d hm).keep (hbr.mono hB) (Nat.le_refl _)
      obtain ⟨b, o, rfl, lb, hc⟩ := h.1.2 (by rw [← Hn.out]; omega)
      have f1 := (hbr.cell (p := ⟨b, o + j, none⟩) (by show b < _; omega)).trans (hc j (by rw [← Hn.out]; exact hlt))
      rw [hdv] at f1
      have hm7 : d.2.2.length ≤ 1048576 := by
        have h3 := tot_take_le D (j + 1)
        rw [take_at hd, tot_snoc] at h3
        omega
      have HL : Hid (lists (D.take (j + 1)) = lists E ++ [d.2.2]) := by
        show lists (D.take (j + 1)) = lists E ++ [d.2.2]
        rw [take_at hd, hL.out]; simp [lists]
      obtain ⟨da, dc, dl⟩ := d
      simp only [dv] at f1 r1 hm7 HL
      have i1 : (j : Int) < (n : Int) := by omega
      have R1 := Lib.hid r1
      have HO := Lib.hid hown
      obtain ⟨m, hm2⟩ : ∃ m, m = dl.length := ⟨_, rfl⟩
      rw [← hm2] at f1 hm7 R1
      have Hm := Lib.hid hm2
      clear hc h hd hm hdv r1 hown hm2 hj hL
      go_wp2_with fail
      refine (toIntS_any da m dc _ wr B R1.out (by omega) hm7).mono ?_
      rintro e w1 ⟨g, hg, rfl, ho, hb⟩
      have ho1 := HO.out.keepB hb (by omega)
      obtain ⟨g0, e, g1, g2, g3, hc2, hf2⟩ := ho1.at_ (by omega)
      simp only [Option.some.injEq, Addr.mk.injEq, and_true] at e
      subst e
      have f2 := hc2 j (by omega)
      have f3 := hf2 j
      have hs := ho1.set_ j (dv (some ⟨g, 0, none⟩, m, dl))
      rw [show (fun i => if i = j then dv (some ⟨g, 0, none⟩, m, dl) else cpd E i) = cpd (E ++ [(some ⟨g, 0, none⟩, m, dl)]) by rw [Hj.out]; exact cpd_succ _ _] at hs
      have hb' := (hbr.trans (hb.mono hbr.size)).setCell (p := ⟨w.heap.size, j, none⟩) (Nat.le_refl _) (dv (some ⟨g, 0, none⟩, m, dl))
      have hfr : Fr w.heap.size (w.heap.size + 1) w1 (w1.setCell ⟨w.heap.size, j, none⟩ (dv (some ⟨g, 0, none⟩, m, dl))) := (Fr.refl _ _ _).setCell (p := ⟨w.heap.size, j, none⟩) (Nat.le_refl _) (Nat.lt_succ_self _) _
      have hzz := hb.size
      have hin2 : ∀ d ∈ E ++ [((some ⟨g, 0, none⟩, m, dl) : Dsc)], Own (w1.setCell ⟨w.heap.size, j, none⟩ (dv (some ⟨g, 0, none⟩, m, dl))) (w.heap.size + 1) w1.heap.size 3 1 d.1 d.2.2.length d.2.1 (ii d.2.2) := by
        intro d hd
        rw [List.mem_append, List.mem_singleton] at hd
        rcases hd with hd | rfl
        · exact ((((hin.out d hd).keepB hb (Nat.le_refl _)).mono (Nat.le_refl _) hzz).keep hfr (.inr (Nat.le_refl _)))
        · have h1 := (ho.keep hfr (.inr (by omega))).mono (lo' := w.heap.size + 1) (by omega) (Nat.le_refl _)
          rw [← Hm.out]
          exact h1
      have hap2 : Apart (E ++ [((some ⟨g, 0, none⟩, m, dl) : Dsc)]) := by
        refine List.pairwise_append.2 ⟨hap.out, List.pairwise_singleton _ _, ?_⟩
        intro e he f hf a h1
        rw [List.mem_singleton] at hf
        subst hf
        intro h2
        simp only [Option.some.injEq] at h2
        subst h2
        rcases (hin.out e he).at_block with h3 | ⟨g5, h3, h4, h5⟩
        · rw [h3] at h1; cases h1
        · rw [h1] at h3
          simp only [Option.some.injEq, Addr.mk.injEq, and_true] at h3
          omega
      have H1 := Lib.hid hs
      have H2 := Lib.hid hb'
      have H3 := Lib.hid hin2
      have H4 := Lib.hid hap2
      have hne : w.heap.size < w1.heap.size := by omega
      simp only [dv, ← Hm.out] at H1 H2 H3
      clear hc2 hf2 hs hb' hfr hin2 hap2 ho ho1 HO hb hbr hin hap f1 R1
      go_wp2
      go_roundw
      case rel =>
        refine ⟨E ++ [(some ⟨g, 0, none⟩, m, dl)], by rw [List.length_append, ← Hj.out, List.length_singleton]; omega, congrArg (Value.int .i64) (by rw [List.length_append, ← Hj.out, List.length_singleton]; omega), ?_, H1.out, ?_, H4, H2.out, by simpa [World.setCell] using hne⟩
        · show lists (E ++ [(some ⟨g, 0, none⟩, m, dl)]) = lists (D.take (E ++ [((some ⟨g, 0, none⟩, m, dl) : Dsc)]).length)
          rw [List.length_append, ← Hj.out, List.length_singleton, HL.out]; simp [lists]
        · intro d hd
          exact (H3.out d hd).mono (Nat.le_refl _) (by simp [World.setCell])
      case measure => simp [intOf]; omega
    · obtain rfl : j = n := by omega
      have HL : Hid (lists E = lists D) := by
        show lists E = lists D
        rw [hL.out, List.take_of_length_le (by rw [← Hn.out]; exact Nat.le_refl _)]
      have HO := Lib.hid hown
      have HB := Lib.hid hbr
      clear hown hbr h hj hL
      go_wp2
      go_ret
      refine ⟨w.heap.size, E, Nat.le_refl _, by rw [← Hj.out]; rfl, HL.out, ⟨?_, fun d hd => (hin.out d hd).mono (by omega) (Nat.le_refl _), hap.out⟩, HB.out⟩
      have h1 := (HO.out.congr (y := dvs E) (fun i hi => by unfold cpd; rw [if_pos (by have := Hj.out; omega)])).lt
      rw [← Hj.out]
      exact h1.mono (Nat.le_refl _) (Nat.min_le_right _ _)

/-- The numbers k, k + 1, .. in place of a list's own. -/
def mkl (k : Int) (l : List Int) : List Int := (List.range l.length).map fun (i : Nat) => k + (i : Int)
def mkD : Int → List Dsc → List Dsc
  | _, [] => []
  | k, d :: D => (d.1, d.2.1, mkl k d.2.2) :: mkD (k + d.2.2.length) D
theorem length_mkl (k : Int) (l : List Int) : (mkl k l).length = l.length := by simp [mkl]
theorem mkD_snoc (k : Int) (D : List Dsc) (d : Dsc) : mkD k (D ++ [d]) = mkD k D ++ [(d.1, d.2.1, mkl (k + tot D) d.2.2)] := by
  induction D generalizing k with
  | nil => simp [mkD, tot]
  | cons e D ih =>
    have he : k + (e.2.2.length : Int) + (tot D : Int) = k + ((e.2.2.length + tot D : Nat) : Int) := by omega
    simp only [List.cons_append, mkD, ih, tot_cons, he]
theorem length_mkD (k : Int) (D : List Dsc) : (mkD k D).length = D.length := by
  induction D generalizing k with
  | nil => rfl
  | cons e D ih => simp [mkD, ih]
theorem tot_mkD (k : Int) (D : List Dsc) : tot (mkD k D) = tot D := by
  induction D generalizing k with
  | nil => rfl
  | cons e D ih => simp only [mkD, tot_cons, ih, length_mkl]
/-- Marking a list of the marks' own make changes nothing. -/
theorem ii_mkl (k : Int) (l : List Int) : ∀ i, i < l.length * 1 → mks k (ii l) l.length i = ii (mkl k l) i := by
  intro i hi
  unfold mks ii mkl
  rw [if_pos (by omega)]
  simp [List.getD, List.getElem?_map, List.getElem?_range (show i < l.length by omega)]
theorem Own.cage {w : World} {lo hi : Nat} {e : TypeId} {size n c : Nat} {A : Option Addr} {x : Nat → Value} (h : Own w lo hi e size A n c x) (_hhi : hi ≤ w.heap.size) : ∃ g, Own w g (g + 1) e size A n c x ∧ (A = some ⟨g, 0, none⟩ ∧ lo ≤ g ∧ g < hi ∨ A = none ∧ g = w.heap.size) := by
  rcases h with h | ⟨g, cur, k1, k2, k3, r⟩
  · exact ⟨w.heap.size, .inl h, .inr ⟨h.1, rfl⟩⟩
  · exact ⟨g, .inr ⟨g, cur, k1, Nat.le_refl _, Nat.lt_succ_self _, r⟩, .inl ⟨k1, k2, k3⟩⟩
/-- Another row stays behind a store into the caged one. -/
theorem Own.uncaged {w w' : World} {lo hi : Nat} {e' : TypeId} {s' n' c' g : Nat} {A A' : Option Addr} {y : Nat → Value} (h : Own w lo hi e' s' A' n' c' y) (hf : Fr g (g + 1) w w')
    (hg : A = some ⟨g, 0, none⟩ ∧ lo ≤ g ∧ g < hi ∨ A = none ∧ g = w.heap.size) (hne : ∀ a, A = some a → A' ≠ some a) : Own w' lo hi e' s' A' n' c' y := by
  rcases hg with ⟨hg, _⟩ | ⟨_, hg⟩
  · exact h.keep1 hf (hne _ hg)
  · refine h.keep1 hf ?_
    rcases h with ⟨h, _⟩ | ⟨g1, cur, k1, k2, k3, k4, r⟩
    · rw [h]; simp
    · have := (Array.getElem?_eq_some_iff.1 k4).1
      rw [k1]
      simp only [ne_eq, Option.some.injEq, Addr.mk.injEq, and_true]
      omega
theorem Fr.uncaged {w w' : World} {lo hi g : Nat} {A : Option Addr} (hf : Fr g (g + 1) w w') (hg : A = some ⟨g, 0, none⟩ ∧ lo ≤ g ∧ g < hi ∨ A = none ∧ g = w.heap.size) : Fr lo hi w w' := by
  rcases hg with ⟨_, h1, h2⟩ | ⟨_, hg⟩
  · exact hf.mono h1 h2
  · exact ⟨hf.os, hf.tape, hf.output, hf.size, fun k hk _ => hf.block k hk (by omega)⟩

set_option maxHeartbeats 1000000 in
theorem markIntSS_any (A : Option Addr) (c : Nat) (D : List Dsc) (k : Int) (w : World) (lo hi : Nat) (h : OwnD w lo hi A c D) (hhi : hi ≤ w.heap.size) (hn : D.length ≤ 1073741824) (ht : tot D ≤ 1073741824) (hk0 : 0 ≤ k) (hk1 : k ≤ 1099511627776) :
    Calls Try.prog 45 #[.slice A D.length c, .int .i64 k] w fun e w' => e = .returned (.int .i64 (k + tot D)) ∧ OwnD w' lo hi A c (mkD k D) ∧ Fr lo hi w w' := by
  obtain ⟨n, hnn⟩ : ∃ n, n = D.length := ⟨_, rfl⟩
  rw [← hnn] at hn ⊢
  have Hn := Lib.hid hnn
  clear hnn
  go_enter Try.func45, Try.ntmps45
  go_wp2
  go_loopw [1, 5] (fun kk i wr => ∃ j : Nat, j ≤ n ∧ i = .int .i64 j ∧ kk = .int .i64 (k + tot (D.take j)) ∧ Hid (OwnD wr lo hi A c (mkD k (D.take j) ++ D.drop j)) ∧ Fr lo hi w wr) (fun _ i _ => n - (intOf i).toNat)
  case atStart => exact ⟨0, Nat.zero_le _, rfl, by simp [tot], by simpa [Hid, mkD] using h, Fr.refl _ _ _⟩
  case round =>
    obtain ⟨j, hj, rfl, rfl, hown, hfr⟩ := hrel
    by_cases hlt : j < n
    · have hjD : j < D.length := by rw [← Hn.out]; exact hlt
      obtain ⟨d, hd⟩ : ∃ d, D[j]? = some d := ⟨_, List.getElem?_eq_getElem hjD⟩
      have hdrop : D.drop j = d :: D.drop (j + 1) := by
        rw [List.drop_eq_getElem_cons hjD]
        rw [List.getElem?_eq_getElem hjD] at hd
        simp only [Option.some.injEq] at hd
        rw [hd]
      have htake := take_at hd
      obtain ⟨P, hP⟩ : ∃ P, P = mkD k (D.take j) := ⟨_, rfl⟩
      obtain ⟨T, hT⟩ : ∃ T, T = D.drop (j + 1) := ⟨_, rfl⟩
      have hPl : P.length = j := by rw [hP, length_mkD, List.length_take]; omega
      have ho := hown.out
      rw [hdrop, ← hP, ← hT] at ho
      have htl := tot_take_le D (j + 1)
      rw [htake, tot_snoc] at htl
      obtain ⟨kk, hkk⟩ : ∃ kk, kk = k + tot (D.take j) := ⟨_, rfl⟩
      rw [← hkk]
      have hlen : (P ++ d :: T).length = n := by
        rw [List.length_append, List.length_cons, hPl, hT, List.length_drop, ← Hn.out]; omega
      have hz := hfr.size
      have hod := ho.2.1 d (by simp)
      obtain ⟨g, hcage, hg⟩ := hod.cage (by omega)
      have hout := ho.1
      rw [hlen] at hout
      obtain ⟨G, rfl, G1, G2, G3, hc, _⟩ := hout.at_ (by omega)
      have f1 := hc j (by omega)
      have hdvj : dvs (P ++ d :: T) j = dv d := by
        unfold dvs
        simp [List.getD, hPl]
      rw [hdvj] at f1
      have hnew : ∀ w' : World, Own w' g (g + 1) 3 1 d.1 d.2.2.length d.2.1 (mks kk (ii d.2.2) d.2.2.length) → Fr g (g + 1) wr w' → OwnD w' lo hi (some ⟨G, 0, none⟩) c (mkD k (D.take (j + 1)) ++ D.drop (j + 1)) := by
        intro w' h1 h2
        rw [htake, mkD_snoc, ← hP, ← hT, List.append_assoc, List.singleton_append]
        have hl2 : (P ++ (d.1, d.2.1, mkl (k + tot (D.take j)) d.2.2) :: T).length = (P ++ d :: T).length := by simp
        have hap := List.pairwise_append.1 ho.2.2
        have hapc := List.pairwise_cons.1 hap.2.1
        refine ⟨?_, ?_, ?_⟩
        · rw [hl2]
          have q := (ho.1).uncaged (A := d.1) h2 hg (fun a ha hA => by
            rcases hg with ⟨hg1, _⟩ | ⟨hg1, _⟩
            · rw [hg1] at ha
              simp only [Option.some.injEq] at ha
              subst ha
              exact hod.types ho.1 (by decide) hg1 hA
            · rw [hg1] at ha; cases ha)
          refine q.congr (fun i hi => ?_)
          unfold dvs
          by_cases h3 : i < P.length
          · simp [List.getD, List.getElem?_append_left h3]
          · simp only [List.getD, List.getElem?_append_right (show P.length ≤ i by omega)]
            rcases Nat.eq_zero_or_pos (i - P.length) with h4 | h4
            · rw [h4]; simp [dv, length_mkl]
            · obtain ⟨m, hm⟩ : ∃ m, i - P.length = m + 1 := ⟨i - P.length - 1, by omega⟩
              rw [hm]; simp
        · intro e he
          rw [List.mem_append, List.mem_cons] at he
          have other : ∀ e : Dsc, e ∈ P ++ d :: T → (∀ a, d.1 = some a → e.1 ≠ some a) → Own w' lo hi 3 1 e.1 e.2.2.length e.2.1 (ii e.2.2) := fun e he hne => (ho.2.1 e he).uncaged (A := d.1) h2 hg hne
          rcases he with he | rfl | he
          · refine other e (by simp [he]) (fun a ha hA => ?_)
            exact hap.2.2 e he d (by simp) a hA ha
          · have := (h1.congr (ii_mkl kk d.2.2))
            rw [hkk] at this
            show Own w' lo hi 3 1 d.1 (mkl (k + tot (D.take j)) d.2.2).length d.2.1 _
            rw [length_mkl]
            rcases hg with ⟨_, hg2, hg3⟩ | ⟨hg1, _⟩
            · exact this.mono hg2 hg3
            · rcases this with h6 | ⟨_, _, h6, _⟩
              · exact .inl h6
              · rw [hg1] at h6; cases h6
          · refine other e (by simp [he]) (fun a ha hA => ?_)
            exact hapc.1 e he a ha hA
        · refine List.pairwise_append.2 ⟨hap.1, List.pairwise_cons.2 ⟨hapc.1, hapc.2⟩, ?_⟩
          intro e he f hf a ha
          rw [List.mem_cons] at hf
          rcases hf with rfl | hf
          · exact hap.2.2 e he d (by simp) a ha
          · exact hap.2.2 e he f (by simp [hf]) a ha
      have hk2 : k + tot (D.take (j + 1)) = kk + d.2.2.length := by rw [htake, tot_snoc, hkk]; push_cast; omega
      have k0 : 0 ≤ kk := by omega
      have k1 : kk ≤ 2199023255552 := by omega
      have hm7 : d.2.2.length ≤ 1073741824 := by omega
      obtain ⟨da, dc, dl⟩ := d
      simp only [dv] at f1 hm7 hk2 hcage hnew hg
      obtain ⟨m, hm2⟩ : ∃ m, m = dl.length := ⟨_, rfl⟩
      rw [← hm2] at f1 hm7 hk2 hcage hnew
      have HK := Lib.hid hk2
      have HC := Lib.hid hcage
      have HN := Lib.hid hnew
      have HG := Lib.hid hg
      have HF := Lib.hid hfr
      clear hc hod hd hdrop htake hPl ho htl hlen hout hdvj hnew hk2 hcage hg hm2 hfr hown h hP hT hjD ht hkk
      go_wp2_with fail
      refine (markIntS_any da m dc _ kk wr g (g + 1) HC.out (by omega) k0 (by omega)).mono ?_
      rintro e w1 ⟨rfl, ho1, hf1⟩
      have H1 := Lib.hid (HN.out w1 ho1 hf1)
      have H2 := Lib.hid (HF.out.trans (hf1.uncaged HG.out))
      clear ho1 hf1 f1
      go_wp2
      go_roundw
      case rel => exact ⟨j + 1, by omega, by go_num, congrArg (Value.int .i64) HK.out.symm, H1, H2.out⟩
      case measure => simp [intOf]; omega
    · obtain rfl : j = n := by omega
      have ho := hown.out
      rw [List.take_of_length_le (by rw [← Hn.out]; exact Nat.le_refl _), List.drop_eq_nil_of_le (by rw [← Hn.out]; exact Nat.le_refl _), List.append_nil] at ho
      have e2 : tot (D.take j) = tot D := by rw [List.take_of_length_le (by rw [← Hn.out]; exact Nat.le_refl _)]
      rw [e2]
      have H1 := Lib.hid ho
      have H2 := Lib.hid hfr
      clear ho hown hfr h e2
      go_wp2
      go_ret
      exact ⟨rfl, H1.out, H2.out⟩

set_option maxHeartbeats 1000000 in
theorem heldIntSS_yes (A : Option Addr) (c : Nat) (D : List Dsc) (k : Int) (w : World) (B : Nat) (h : RdD w B A c (mkD k D)) (hn : D.length ≤ 1073741824) (ht : tot D ≤ 1073741824) (hk0 : 0 ≤ k) (hk1 : k ≤ 1099511627776) :
    Calls Try.prog 46 #[.slice A D.length c, .int .i64 k] w fun e w' => e = .returned (.int .i64 (k + tot D)) ∧ w = w' := by
  obtain ⟨n, hnn⟩ : ∃ n, n = D.length := ⟨_, rfl⟩
  rw [← hnn] at hn ⊢
  have Hn := Lib.hid hnn
  clear hnn
  go_enter Try.func46, Try.ntmps46
  go_wp2
  go_loop [1, 5] (fun kk i => ∃ j : Nat, j ≤ n ∧ i = .int .i64 j ∧ kk = .int .i64 (k + tot (D.take j))) (fun _ i => n - (intOf i).toNat)
  case atStart => exact ⟨0, Nat.zero_le _, rfl, by simp [tot]⟩
  case round =>
    obtain ⟨j, hj, rfl, rfl⟩ := hrel
    by_cases hlt : j < n
    · have hjD : j < D.length := by rw [← Hn.out]; exact hlt
      obtain ⟨d, hd⟩ : ∃ d, D[j]? = some d := ⟨_, List.getElem?_eq_getElem hjD⟩
      have htake := take_at hd
      have hmk : mkD k D = mkD k (D.take j) ++ (d.1, d.2.1, mkl (k + tot (D.take j)) d.2.2) :: (mkD k D).drop (j + 1) := by
        have h1 : ∀ (D1 D2 : List Dsc) (k : Int), mkD k (D1 ++ D2) = mkD k D1 ++ mkD (k + tot D1) D2 := by
          intro D1
          induction D1 with
          | nil => intro D2 k; simp [mkD, tot]
          | cons e D1 ih =>
            intro D2 k
            have he : k + (e.2.2.length : Int) + (tot D1 : Int) = k + ((e.2.2.length + tot D1 : Nat) : Int) := by omega
            simp only [List.cons_append, mkD, ih, tot_cons, he]
        have h2 : mkD k D = mkD k (D.take (j + 1)) ++ mkD (k + tot (D.take (j + 1))) (D.drop (j + 1)) := by
          conv => lhs; rw [← List.take_append_drop (j + 1) D]
          rw [h1]
        have h3 : (mkD k (D.take (j + 1))).length = j + 1 := by rw [length_mkD, List.length_take]; omega
        have h4 : (mkD k D).drop (j + 1) = mkD (k + tot (D.take (j + 1))) (D.drop (j + 1)) := by
          rw [h2, List.drop_append, h3, Nat.sub_self, List.drop_zero, List.drop_eq_nil_of_le (by omega), List.nil_append]
        rw [h4]
        conv => lhs; rw [h2, htake, mkD_snoc, List.append_assoc, List.singleton_append]
        rw [htake]
      have hPl : (mkD k (D.take j)).length = j := by rw [length_mkD, List.length_take]; omega
      have r1 := h.2 (d.1, d.2.1, mkl (k + tot (D.take j)) d.2.2) (by rw [hmk]; simp)
      have htl := tot_take_le D (j + 1)
      rw [htake, tot_snoc] at htl
      obtain ⟨b, o, rfl, lb, hc⟩ := h.1.2 (by rw [length_mkD, ← Hn.out]; omega)
      have f1 := hc j (by rw [length_mkD, ← Hn.out]; exact hlt)
      have hdvj : dvs (mkD k D) j = .slice d.1 d.2.2.length d.2.1 := by
        unfold dvs
        rw [hmk]
        simp [List.getD, hPl, dv, length_mkl]
      rw [hdvj] at f1
      obtain ⟨kk, hkk⟩ : ∃ kk, kk = k + tot (D.take j) := ⟨_, rfl⟩
      rw [← hkk] at r1 ⊢
      have hk2 : k + tot (D.take (j + 1)) = kk + d.2.2.length := by rw [htake, tot_snoc, hkk]; push_cast; omega
      have k0 : 0 ≤ kk := by omega
      have k1 : kk ≤ 2199023255552 := by omega
      have hm7 : d.2.2.length ≤ 1073741824 := by omega
      have r2 : Rd w B d.1 d.2.2.length d.2.1 (fun i => kk + i) := by
        simp only [length_mkl] at r1
        refine r1.congr (fun i hi => ?_)
        unfold mkl
        simp [List.getD, List.getElem?_range hi]
      obtain ⟨da, dc, dl⟩ := d
      simp only at f1 hm7 hk2 r2
      obtain ⟨m, hm2⟩ : ∃ m, m = dl.length := ⟨_, rfl⟩
      rw [← hm2] at f1 hm7 hk2 r2
      have HK := Lib.hid hk2
      have HR := Lib.hid r2
      clear hc hd htake hmk hPl r1 htl hdvj hk2 r2 hm2 hjD h ht hkk
      go_wp2_with fail
      refine (heldIntS_yes da m dc kk w B HR.out (by omega) k0 (by omega)).mono ?_
      rintro e w' ⟨rfl, rfl⟩
      have hnn2 : 0 ≤ kk + m := by omega
      go_wp2
      go_round
      case rel => exact ⟨j + 1, by omega, by go_num, congrArg (Value.int .i64) HK.out.symm⟩
      case measure => simp [intOf]; omega
    · obtain rfl : j = n := by omega
      have e2 : tot (D.take j) = tot D := by rw [List.take_of_length_le (by rw [← Hn.out]; exact Nat.le_refl _)]
      rw [e2]
      clear h e2
      go_wp2
      go_ret
      exact ⟨rfl, rfl⟩
end Go.Proofs.Ytnnlmdenffnjbaa
