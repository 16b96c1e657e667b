/-
  Contracts of the law's helpers on slices of edits.
-/
import Derived.Test.YtnnlmdenffnjbaaEdit
namespace Go.Proofs.Ytnnlmdenffnjbaa
open Go.RowKit

theorem szEditS_max (A : Option Addr) (n c : Nat) (left : Int) (w : World) (hn : n ≤ maxLen) (h0 : 0 ≤ left) (h1 : left ≤ 1048576) :
    Calls Try.prog 13 #[.slice A n c, .int .i64 left] w fun e w' => e = .returned (.int .i64 (szl left n)) ∧ w = w' := by
  unfold maxLen at hn
  by_cases h : left < n
  · have h' : left - n < 0 := by omega
    go_enter Try.func13, Try.ntmps13
    go_wp2
    go_ret
    exact ⟨ret_int (by unfold szl; rw [if_pos (by omega)]), rfl⟩
  · have h' : 0 ≤ left - n := by omega
    go_enter Try.func13, Try.ntmps13
    go_wp2
    go_ret
    exact ⟨ret_int (by unfold szl; rw [if_neg (by omega)]), rfl⟩

set_option maxHeartbeats 400000 in
theorem toEdit_any (a : Bool) (v u : Int) (w : World) :
    Calls Try.prog 53 #[.agg #[.bool a, .int .i64 v, .int .i64 u]] w fun e w' => e = .returned (.agg #[.bool a, .int .i64 v, .int .i64 u]) ∧ Below w.heap.size w w' := by
  go_enter Try.func53, Try.ntmps53
  go_wp2
  exact bodyPost_ret (v := .agg #[.bool a, .int .i64 v, .int .i64 u]) (by simp [results, Try.results53, go_sem]) rfl ⟨rfl, (((Below.refl _ _).alloc (Nat.le_refl _) _).alloc (by simp) _).alloc (by simp; omega) _⟩

set_option maxHeartbeats 400000 in
theorem eqEdit_yes (a : Bool) (v u : Int) (w : World) :
    Calls Try.prog 57 #[.agg #[.bool a, .int .i64 v, .int .i64 u], .agg #[.bool a, .int .i64 v, .int .i64 u]] w fun e w' => e = .returned (.bool true) ∧ Below w.heap.size w w' := by
  go_enter Try.func57, Try.ntmps57
  go_wp2
  go_ret
  exact ⟨rfl, ((Below.refl _ _).alloc (Nat.le_refl _) _).alloc (by simp) _⟩

set_option maxHeartbeats 400000 in
theorem eqEditS_yes (A1 A2 : Option Addr) (n c1 c2 : Nat) (a : Nat → Bool) (v u : Nat → Int) (w : World) (B1 B2 : Nat) (h1 : RdE w B1 A1 n c1 a v u) (h2 : RdE w B2 A2 n c2 a v u) (hB1 : B1 ≤ w.heap.size) (hB2 : B2 ≤ w.heap.size) (hn : n ≤ 1073741824) :
    Calls Try.prog 19 #[.slice A1 n c1, .slice A2 n c2] w fun e w' => e = .returned (.bool true) ∧ Below w.heap.size w w' := by
  go_enter Try.func19, Try.ntmps19
  go_wp2
  go_loopw [5] (fun i wr => ∃ k : Nat, k ≤ n ∧ i = .int .i64 k ∧ Below w.heap.size w wr) (fun i _ => n - (intOf i).toNat)
  case atStart => exact ⟨0, Nat.zero_le _, rfl, Below.refl _ _⟩
  case round =>
    obtain ⟨k, hk, rfl, hbr⟩ := hrel
    by_cases hlt : k < n
    · obtain ⟨b1, o1, rfl, l1, c1'⟩ := h1.2 (by omega)
      obtain ⟨b2, o2, rfl, l2, c2'⟩ := h2.2 (by omega)
      obtain ⟨p0, p1, p2⟩ := c1' k hlt
      obtain ⟨q0, q1, q2⟩ := c2' k hlt
      have f0 := (hbr.cell (p := ⟨b1, _, none⟩) (by show b1 < _; omega)).trans p0
      have f1 := (hbr.cell (p := ⟨b1, _, none⟩) (by show b1 < _; omega)).trans p1
      have f2 := (hbr.cell (p := ⟨b1, _, none⟩) (by show b1 < _; omega)).trans p2
      have g0 := (hbr.cell (p := ⟨b2, _, none⟩) (by show b2 < _; omega)).trans q0
      have g1 := (hbr.cell (p := ⟨b2, _, none⟩) (by show b2 < _; omega)).trans q1
      have g2 := (hbr.cell (p := ⟨b2, _, none⟩) (by show b2 < _; omega)).trans q2
      have i1 : (k : Int) < (n : Int) := by omega
      have hz := hbr.size
      clear c1' c2' h1 h2 p0 p1 p2 q0 q1 q2
      go_wp2_with fail
      go_region_held3 (fun z => z.cell? ⟨b1, o1 + k * 3, none⟩ = some (.bool (a k)) ∧ z.cell? ⟨b1, o1 + k * 3 + 1, none⟩ = some (.int .i64 (v k)) ∧ z.cell? ⟨b1, o1 + k * 3 + 2, none⟩ = some (.int .i64 (u k)) ∧ z.cell? ⟨b2, o2 + k * 3, none⟩ = some (.bool (a k)) ∧ z.cell? ⟨b2, o2 + k * 3 + 1, none⟩ = some (.int .i64 (v k)) ∧ z.cell? ⟨b2, o2 + k * 3 + 2, none⟩ = some (.int .i64 (u k)))
        (first | (refine ⟨?_, ?_, ?_, ?_, ?_, ?_⟩ <;> assumption) | go_keep | (refine ⟨?_, ?_, ?_, ?_, ?_, ?_⟩ <;> (refine (hb.cell (by first | (show b1 < wr.heap.size; omega) | (show b2 < wr.heap.size; omega))).trans ?_; go_keep)))
        ((go_at_call 57; (refine (eqEdit_yes (a k) (v k) (u k) _).mono ?_); rintro e w1 ⟨rfl, hb⟩))
      have HB := Lib.hid (hbr.drew.trans (hb.mono hbr.size))
      clear f0 f1 f2 g0 g1 g2 hb hbr
      go_wp2
      go_roundw
      case rel => exact ⟨k + 1, by omega, by go_num, HB.out⟩
      case measure => simp [intOf]; omega
    · have hge : (n : Int) ≤ (k : Int) := by omega
      have HB := Lib.hid hbr
      clear hbr h1 h2
      go_wp2
      go_ret
      exact ⟨rfl, HB.out⟩

theorem run_make_rowN {P : Program} (t e : TypeId) (z : Value) (size bytes : Nat) (ht : P.underlying t = some (.slice e)) (hinfo : (P.info? e).map (fun i => (i.zero, i.size, i.bytes)) = some (some z, size, bytes))
    (n : Nat) (hbytes : bytes * n ≤ 281474976710656) (h63 : n ≤ 9223372036854775807) (w : World) :
    (Instr.makeSlice t (.int .i64 (n : Int)) (.int .i64 (n : Int))).run P w = .ok (.slice (some ⟨w.heap.size, 0, none⟩) n n) (w.alloc (.cells (madeCells z.cells (n * size)) e)) := by
  obtain ⟨i, hi, hzz⟩ := Option.map_eq_some_iff.1 hinfo
  simp only [Prod.mk.injEq] at hzz
  obtain ⟨hz, hs, hby⟩ := hzz
  have hb : (i.bytes : Int) * (n : Int) ≤ 281474976710656 := by
    have h : ((i.bytes * n : Nat) : Int) ≤ 281474976710656 := by rw [hby]; omega
    rwa [Int.natCast_mul] at h
  have hr := run_make (P := P) w t e i z ht hi hz .i64 .i64 n n (by omega) (by omega) hb (by omega)
  simp only [Int.toNat_natCast] at hr
  rw [hs] at hr
  exact hr

/-- What the copy holds behind k rounds. -/
def cpe (a : Nat → Bool) (v u : Nat → Int) (i : Nat) : Nat → Value := eds (fun j => if j < i then a j else false) (fun j => if j < i then v j else 0) (fun j => if j < i then u j else 0)
theorem cpe_succ (a : Nat → Bool) (v u : Nat → Int) (i : Nat) : (fun j => if j = i * 3 + 2 then Value.int .i64 (u i) else (fun j => if j = i * 3 + 1 then Value.int .i64 (v i) else (fun j => if j = i * 3 then Value.bool (a i) else cpe a v u i j) j) j) = cpe a v u (i + 1) := by
  funext j
  have hd : j = j / 3 * 3 ∨ j = j / 3 * 3 + 1 ∨ j = j / 3 * 3 + 2 := by omega
  generalize j / 3 = q at hd
  unfold cpe
  rcases hd with rfl | rfl | rfl
  · rw [if_neg (by omega)]; simp only [eds0]
    rw [if_neg (by omega)]
    by_cases h : q = i
    · subst h; simp
    · rw [if_neg (by omega)]
      by_cases h2 : q < i
      · rw [if_pos h2, if_pos (by omega)]
      · rw [if_neg h2, if_neg (by omega)]
  · rw [if_neg (by omega)]; simp only [eds1]
    by_cases h : q = i
    · subst h; simp
    · rw [if_neg (by omega), if_neg (by omega)]
      by_cases h2 : q < i
      · rw [if_pos h2, if_pos (by omega)]
      · rw [if_neg h2, if_neg (by omega)]
  · simp only [eds2]
    by_cases h : q = i
    · subst h; simp
    · rw [if_neg (by omega), if_neg (by omega), if_neg (by omega)]
      by_cases h2 : q < i
      · rw [if_pos h2, if_pos (by omega)]
      · rw [if_neg h2, if_neg (by omega)]

set_option maxHeartbeats 1000000 in
theorem toEditS_any (A : Option Addr) (n c : Nat) (a : Nat → Bool) (v u : Nat → Int) (w : World) (B : Nat) (h : RdE w B A n c a v u) (hB : B ≤ w.heap.size) (hn : n ≤ 1048576) :
    Calls Try.prog 16 #[.slice A n c] w fun e w' => ∃ g, w.heap.size ≤ g ∧ e = .returned (.slice (some ⟨g, 0, none⟩) n n) ∧ Own w' w.heap.size w'.heap.size 66 3 (some ⟨g, 0, none⟩) n n (eds a v u) ∧ Below w.heap.size w w' := by
  have hmk := fun W => run_make_rowN (P := Try.prog) 32 66 (.agg #[.bool false, .int .i64 0, .int .i64 0]) 3 24 Try.underlying32 info_edit n (by omega) (by omega) W
  go_enter Try.func16, Try.ntmps16
  go_wp2
  clear hmk
  go_loopw [4] (fun i wr => ∃ j : Nat, j ≤ n ∧ i = .int .i64 j ∧ Own wr w.heap.size (w.heap.size + 1) 66 3 (some ⟨w.heap.size, 0, none⟩) n n (cpe a v u j) ∧ Below w.heap.size w wr ∧ w.heap.size < wr.heap.size) (fun i _ => n - (intOf i).toNat)
  case atStart =>
    refine ⟨0, Nat.zero_le _, rfl, ?_, (Below.refl _ _).alloc (Nat.le_refl _) _, by simp⟩
    refine .inr ⟨_, _, rfl, Nat.le_refl _, Nat.lt_succ_self _, heap_alloc_new w _, Nat.le_refl _, by unfold maxLen; omega, size_madeCells _ _, fun j hj => ?_⟩
    have hm : j % 3 = 0 ∨ j % 3 = 1 ∨ j % 3 = 2 := by omega
    rcases hm with h0 | h0 | h0 <;> simp [madeCells, hj, cpe, eds, h0]
  case round =>
    obtain ⟨j, hj, rfl, hown, hbr, hz⟩ := hrel
    by_cases hlt : j < n
    · obtain ⟨b, o, rfl, l, hc⟩ := h.2 (by omega)
      obtain ⟨p0, p1, p2⟩ := hc j hlt
      have f0 := (hbr.cell (p := ⟨b, _, none⟩) (by show b < _; omega)).trans p0
      have f1 := (hbr.cell (p := ⟨b, _, none⟩) (by show b < _; omega)).trans p1
      have f2 := (hbr.cell (p := ⟨b, _, none⟩) (by show b < _; omega)).trans p2
      have HO := Lib.hid hown
      have hi : (j : Int) < (n : Int) := by omega
      clear hc h p0 p1 p2 hown
      go_wp2_with fail
      refine (toEdit_any (a j) (v j) (u j) wr).mono ?_
      rintro e w1 ⟨rfl, hb⟩
      have ho1 := HO.out.keepB hb (by omega)
      obtain ⟨g, e, g1, g2, g3, hc2, hf2⟩ := ho1.at_ (by omega)
      simp only [Option.some.injEq, Addr.mk.injEq, and_true] at e
      subst e
      have t0 := hc2 (j * 3) (by omega)
      have t1 := hc2 (j * 3 + 1) (by omega)
      have t2 := hc2 (j * 3 + 2) (by omega)
      have s0 := hf2 (j * 3)
      have s1 := hf2 (j * 3 + 1)
      have s2 := hf2 (j * 3 + 2)
      have hs := ((ho1.set_ (j * 3) (.bool (a j))).set_ (j * 3 + 1) (.int .i64 (v j))).set_ (j * 3 + 2) (.int .i64 (u j))
      rw [cpe_succ] at hs
      have hb' := (((hbr.trans (hb.mono hbr.size)).setCell (p := ⟨w.heap.size, j * 3, none⟩) (Nat.le_refl _) (.bool (a j))).setCell (p := ⟨w.heap.size, j * 3 + 1, none⟩) (Nat.le_refl _) (.int .i64 (v j))).setCell (p := ⟨w.heap.size, j * 3 + 2, none⟩) (Nat.le_refl _) (.int .i64 (u j))
      have H1 := Lib.hid hs
      have H2 := Lib.hid hb'
      have hz1 := hb.size
      have hz2 : w.heap.size < w1.heap.size := by omega
      clear hc2 hf2 hs hb' hbr hb ho1 HO f0 f1 f2
      go_wp2
      go_roundw
      case rel => exact ⟨j + 1, by omega, by go_num, H1.out, H2.out, by simpa [World.setCell] using hz2⟩
      case measure => simp [intOf]; omega
    · have hge : (n : Int) ≤ (j : Int) := by omega
      have H := Lib.hid hown
      have Hb := Lib.hid hbr
      clear hown hbr h
      go_wp2
      go_ret
      refine ⟨w.heap.size, Nat.le_refl _, rfl, ?_, Hb.out⟩
      have h1 := (H.out.congr (y := eds a v u) (fun i hi => by
        unfold cpe eds
        have : i / 3 < j := by omega
        simp only [this, if_true])).lt
      exact h1.mono (Nat.le_refl _) (Nat.min_le_right _ _)

/-- What mark writes into edits: k, k + 1, .. -/
def mke (k : Int) (a : Nat → Bool) (v u : Nat → Int) (i : Nat) : Nat → Value := eds (fun j => if j < i then ((k + 3 * j) % 3 == 0) else a j) (fun j => if j < i then k + 3 * j + 1 else v j) (fun j => if j < i then k + 3 * j + 2 else u j)
theorem mke_succ (k : Int) (a : Nat → Bool) (v u : Nat → Int) (i : Nat) : (fun j => if j = i * 3 + 2 then Value.int .i64 (k + 3 * i + 2) else (fun j => if j = i * 3 + 1 then Value.int .i64 (k + 3 * i + 1) else (fun j => if j = i * 3 then Value.bool ((k + 3 * i) % 3 == 0) else mke k a v u i j) j) j) = mke k a v u (i + 1) := by
  funext j
  have hd : j = j / 3 * 3 ∨ j = j / 3 * 3 + 1 ∨ j = j / 3 * 3 + 2 := by omega
  generalize j / 3 = q at hd
  unfold mke
  rcases hd with rfl | rfl | rfl
  · rw [if_neg (by omega)]; simp only [eds0]
    rw [if_neg (by omega)]
    by_cases h : q = i
    · subst h; simp
    · rw [if_neg (by omega)]
      by_cases h2 : q < i
      · rw [if_pos h2, if_pos (by omega)]
      · rw [if_neg h2, if_neg (by omega)]
  · rw [if_neg (by omega)]; simp only [eds1]
    by_cases h : q = i
    · subst h; simp
    · rw [if_neg (by omega), if_neg (by omega)]
      by_cases h2 : q < i
      · rw [if_pos h2, if_pos (by omega)]
      · rw [if_neg h2, if_neg (by omega)]
  · simp only [eds2]
    by_cases h : q = i
    · subst h; simp
    · rw [if_neg (by omega), if_neg (by omega), if_neg (by omega)]
      by_cases h2 : q < i
      · rw [if_pos h2, if_pos (by omega)]
      · rw [if_neg h2, if_neg (by omega)]

set_option maxHeartbeats 1000000 in
theorem markEditS_any (A : Option Addr) (n c : Nat) (a : Nat → Bool) (v u : Nat → Int) (k : Int) (w : World) (lo hi : Nat) (h : Own w lo hi 66 3 A n c (eds a v u)) (hn : n ≤ 1073741824) (hk0 : 0 ≤ k) (hk1 : k ≤ 1099511627776) :
    Calls Try.prog 21 #[.slice A n c, .int .i64 k] w fun e w' => e = .returned (.int .i64 (k + 3 * n)) ∧ Own w' lo hi 66 3 A n c (mke k a v u n) ∧ Fr lo hi w w' := by
  go_enter Try.func21, Try.ntmps21
  go_wp2
  go_loopw [1, 5] (fun kk i wr => ∃ j : Nat, j ≤ n ∧ i = .int .i64 j ∧ kk = .int .i64 (k + 3 * j) ∧ Own wr lo hi 66 3 A n c (mke k a v u j) ∧ Fr lo hi w wr) (fun _ i _ => n - (intOf i).toNat)
  case atStart => exact ⟨0, Nat.zero_le _, rfl, by go_num, h.congr (fun j _ => by simp [mke]), Fr.refl _ _ _⟩
  case round =>
    obtain ⟨j, hj, rfl, rfl, hown, hfr⟩ := hrel
    by_cases hlt : j < n
    · obtain ⟨g, rfl, g1, g2, g3, hc, hf⟩ := hown.at_ (by omega)
      have t0 := hc (j * 3) (by omega)
      have t1 := hc (j * 3 + 1) (by omega)
      have t2 := hc (j * 3 + 2) (by omega)
      have s0 := hf (j * 3)
      have s1 := hf (j * 3 + 1)
      have s2 := hf (j * 3 + 2)
      have hs := ((hown.set_ (j * 3) (.bool ((k + 3 * j) % 3 == 0))).set_ (j * 3 + 1) (.int .i64 (k + 3 * j + 1))).set_ (j * 3 + 2) (.int .i64 (k + 3 * j + 2))
      rw [mke_succ] at hs
      have hfr' := ((hfr.setCell (p := ⟨g, j * 3, none⟩) g1 g2 (.bool ((k + 3 * j) % 3 == 0))).setCell (p := ⟨g, j * 3 + 1, none⟩) g1 g2 (.int .i64 (k + 3 * j + 1))).setCell (p := ⟨g, j * 3 + 2, none⟩) g1 g2 (.int .i64 (k + 3 * j + 2))
      obtain ⟨kk, hkk⟩ : ∃ kk : Int, kk = k + 3 * j := ⟨_, rfl⟩
      rw [← hkk] at hs hfr' ⊢
      have k0 : 0 ≤ kk := by omega
      have k1 : kk ≤ 8796093022208 := by omega
      rw [show kk + 2 = kk + 1 + 1 by omega] at hs hfr'
      have H0 := Lib.hid hkk
      have H1 := Lib.hid hs
      have H2 := Lib.hid hfr'
      clear hc hf hs hfr' h hown hfr hkk
      go_wp2
      go_roundw
      case rel => exact ⟨j + 1, by omega, by go_num, congrArg (Value.int .i64) (by have := H0.out; omega), H1.out, H2.out⟩
      case measure => simp [intOf]; omega
    · obtain rfl : j = n := by omega
      have H1 := Lib.hid hown
      have H2 := Lib.hid hfr
      clear hown hfr h
      go_wp2
      go_ret
      exact ⟨rfl, H1.out, H2.out⟩

end Go.Proofs.Ytnnlmdenffnjbaa
