/-
-/
import Derived.Test.YtdpkbfiggbcclaaGreatRows
import Derived.Test.YtdpkbfiggbcclaaGreatQkGA
import Derived.Deep.RegionHeld3
import Derived.Deep.QuietTactic
import Derived.BigQuiet
/-
 Words for memory: a slice of slices of integers that the call owns, or that it only reads.
-/
namespace Go.Proofs.YtdpkbfiggbcclaaGreat
open Go.RowKit
abbrev Dsc := Option Addr × Nat × List Int
def dv (d : Dsc) : Value := .slice d.1 d.2.2.length d.2.1
def dvs (D : List Dsc) : Nat → Value := fun j => dv (D.getD j (none, 0, []))
def ii (l : List Int) : Nat → Value := fun i => .int .i64 (l.getD i 0)
def lists (D : List Dsc) : List (List Int) := D.map (·.2.2)
def Apart (D : List Dsc) : Prop := D.Pairwise fun d e => ∀ a, d.1 = some a → e.1 ≠ some a
def OwnD (w : World) (lo hi : Nat) (A : Option Addr) (c : Nat) (D : List Dsc) : Prop :=
 Own w lo hi 22 1 A D.length c (dvs D) ∧ (∀ d ∈ D, Own w lo hi 3 1 d.1 d.2.2.length d.2.1 (ii d.2.2)) ∧ Apart D
def RdD (w : World) (B : Nat) (A : Option Addr) (c : Nat) (D : List Dsc) : Prop :=
 RdV w B A D.length c (dvs D) ∧ ∀ d ∈ D, Rd w B d.1 d.2.2.length d.2.1 (fun i => d.2.2.getD i 0)
theorem info_ints : (Tryz.prog.info? 22).map (fun i => (i.zero, i.size, i.bytes)) = some (some (.slice none 0 0), 1, 24) := by kernel_rfl
section
variable {w w' : World} {lo hi lo' hi' B B' c : Nat} {A : Option Addr} {D : List Dsc}
theorem OwnD.mono (h : OwnD w lo hi A c D) (h1 : lo' ≤ lo) (h2 : hi ≤ hi') : OwnD w lo' hi' A c D := ⟨h.1.mono h1 h2, fun d hd => (h.2.1 d hd).mono h1 h2, h.2.2⟩
theorem OwnD.keep {a b : Nat} (h : OwnD w lo hi A c D) (hf : Fr a b w w') (hab : hi ≤ a ∨ b ≤ lo) : OwnD w' lo hi A c D := ⟨h.1.keep hf hab, fun d hd => (h.2.1 d hd).keep hf hab, h.2.2⟩
theorem OwnD.keepB (h : OwnD w lo hi A c D) (hf : Below B w w') (hB : hi ≤ B) : OwnD w' lo hi A c D := ⟨h.1.keepB hf hB, fun d hd => (h.2.1 d hd).keepB hf hB, h.2.2⟩
theorem OwnD.alloc (h : OwnD w lo hi A c D) (o : Obj) : OwnD (w.alloc o) lo hi A c D := ⟨h.1.alloc o, fun d hd => (h.2.1 d hd).alloc o, h.2.2⟩
theorem OwnD.drew (h : OwnD w lo hi A c D) : OwnD w.drew lo hi A c D := h
theorem OwnD.rdD (h : OwnD w lo hi A c D) : RdD w hi A c D := ⟨h.1.rdV, fun d hd => (h.2.1 d hd).rd⟩
theorem RdD.keep (h : RdD w B A c D) (hb : Below B w w') (hB : B ≤ B') : RdD w' B' A c D := ⟨h.1.keep hb hB, fun d hd => (h.2 d hd).keep hb hB⟩
theorem Own.only {e : TypeId} {size n : Nat} {x : Nat → Value} (h : Own w lo hi e size A n c x) (hn : 0 < n) : ∃ g, A = some ⟨g, 0, none⟩ ∧ lo ≤ g ∧ g < hi ∧ Own w g (g + 1) e size A n c x := by
 rcases h with h | ⟨g, cur, k1, k2, k3, r⟩
 ·omega
 ·exact ⟨g, k1, k2, k3, .inr ⟨g, cur, k1, Nat.le_refl _, Nat.lt_succ_self _, r⟩⟩
theorem Own.at_block {e : TypeId} {size n : Nat} {x : Nat → Value} (h : Own w lo hi e size A n c x) : A = none ∨ ∃ g, A = some ⟨g, 0, none⟩ ∧ lo ≤ g ∧ g < hi := by
 rcases h with ⟨h, _⟩ | ⟨g, cur, k1, k2, k3, _⟩
 ·exact .inl h
 ·exact .inr ⟨g, k1, k2, k3⟩
theorem getD_append_left {D : List Dsc} {d : Dsc} {j : Nat} (h : j < D.length) : (D ++ [d]).getD j (none, 0, []) = D.getD j (none, 0, []) := by
 simp [List.getD, List.getElem?_append_left h]
theorem dvs_left {D : List Dsc} {d : Dsc} {j : Nat} (h : j < D.length) : dvs (D ++ [d]) j = dvs D j := by unfold dvs; rw [getD_append_left h]
theorem dvs_last {D : List Dsc} {d : Dsc} : dvs (D ++ [d]) D.length = dv d := by unfold dvs; simp [List.getD]
theorem dvs_at {D : List Dsc} {j : Nat} (h : j < D.length) : ∃ d, D[j]? = some d ∧ d ∈ D ∧ dvs D j = dv d := by
 refine ⟨D[j], List.getElem?_eq_getElem h, List.getElem_mem h, ?_⟩
 unfold dvs
 simp [List.getD, List.getElem?_eq_getElem h]
end
end Go.Proofs.YtdpkbfiggbcclaaGreat
/-
 Contracts of the law's helpers on slices of slices of integers.
-/
namespace Go.Proofs.YtdpkbfiggbcclaaGreat
open Go.RowKit
def tot (D : List Dsc) : Nat := (D.map fun d => d.2.2.length).sum
theorem tot_snoc (D : List Dsc) (d : Dsc) : tot (D ++ [d]) = tot D + d.2.2.length := by simp [tot]
theorem take_at {D : List Dsc} {k : Nat} {d : Dsc} (h : D[k]? = some d) : D.take (k + 1) = D.take k ++ [d] := by
 rw [List.take_add_one, h]; rfl
theorem tot_take_le (D : List Dsc) (k : Nat) : tot (D.take k) ≤ tot D := by
 conv => rhs; rw [← List.take_append_drop k D]
 unfold tot
 rw [List.map_append, List.sum_append]
 exact Nat.le_add_right _ _
theorem tot_lists {D E : List Dsc} (h : lists D = lists E) : tot D = tot E := by
 have : ∀ D : List Dsc, tot D = ((lists D).map List.length).sum := fun D => by simp [tot, lists, Function.comp_def]
 rw [this, this, h]
theorem len_lists {D E : List Dsc} (h : lists D = lists E) : D.length = E.length := by
 have := congrArg List.length h
 simpa [lists] using this
theorem lists_at {D E : List Dsc} (h : lists D = lists E) {k : Nat} {d e : Dsc} (hd : D[k]? = some d) (he : E[k]? = some e) : d.2.2 = e.2.2 := by
 have := congrArg (fun l => l[k]?) h
 simpa [lists, hd, he] using this
set_option maxHeartbeats 1000000 in
theorem szIntSS_max (A : Option Addr) (c : Nat) (D : List Dsc) (left : Int) (w : World) (B : Nat) (h : RdD w B A c D) (hn : D.length ≤ maxLen) (hl : ∀ d ∈ D, d.2.2.length ≤ maxLen) (h0 : 0 ≤ left) (h1 : left ≤ 1048576) :
 Calls Tryz.prog 116 #[.slice A D.length c, .int .i64 left] w fun e w' => e = .returned (.int .i64 (szl left (D.length + tot D))) ∧ w = w' := by
 obtain ⟨n, hnn⟩ : ∃ n, n = D.length := ⟨_, rfl⟩
 rw [← hnn] at hn ⊢
 have Hn := Lib.hid hnn
 have hn' := hn
 unfold maxLen at hn'
 clear hnn hn
 by_cases hlt : left < n
 ·have h' : left - n < 0 := by omega
  have he : Hid (szl left (n + tot D) = -1) := by show szl left (n + tot D) = -1; unfold szl; rw [if_pos (by omega)]
  go_enter Tryz.func116, Tryz.ntmps116
  go_wp2
  go_ret
  exact ⟨ret_int he.out.symm, rfl⟩
 have h' : 0 ≤ left - n := by omega
 go_enter Tryz.func116, Tryz.ntmps116
 go_wp2
 go_loop [1, 5] (fun l i => ∃ k : Nat, k ≤ n ∧ i = .int .i64 k ∧ ∃ t : Nat, l = .int .i64 (left - n - t) ∧ (t : Int) ≤ left - n ∧ Hid (t = tot (D.take k))) (fun _ i => n - (intOf i).toNat)
 case atStart => exact ⟨0, Nat.zero_le _, rfl, 0, by go_num, by omega, by simp [Hid, tot]⟩
 case round =>
  obtain ⟨k, hk, rfl, t, rfl, ht, hT⟩ := hrel
  by_cases hkn : k < n
  ·obtain ⟨d, hd, hm, hdv⟩ := dvs_at (D := D) (j := k) (by rw [← Hn.out]; exact hkn)
   obtain ⟨b, o, rfl, lb, hc⟩ := h.1.2 (by rw [← Hn.out]; omega)
   have f1 := hc k (by rw [← Hn.out]; exact hkn)
   rw [hdv] at f1
   have hlen := hl d hm
   have hts := take_at hd
   have htl := tot_take_le D (k + 1)
   rw [hts, tot_snoc, ← hT.out] at htl
   obtain ⟨da, dc, dl⟩ := d
   simp only [dv] at f1 hlen htl
   obtain ⟨m, hm2⟩ : ∃ m, m = dl.length := ⟨_, rfl⟩
   rw [← hm2] at f1 hlen htl
   have Hts : Hid (tot (D.take (k + 1)) = t + m) := by show tot (D.take (k + 1)) = t + m; rw [hts, tot_snoc, ← hT.out, hm2]
   have e0 : 0 ≤ left - n - t := by omega
   have e1 : left - n - t ≤ 1048576 := by omega
   by_cases hlt2 : left - n - t < m
   ·have he : Hid (szl left (n + tot D) = -1) := by show szl left (n + tot D) = -1; unfold szl; rw [if_pos (by omega)]
    have q1 : szl (left - n - t) m = -1 := by unfold szl; rw [if_pos hlt2]
    clear hc h hts hd hdv hl hm2 hm htl
    go_wp2_with fail
    refine (szIntS_max da m dc (left - n - t) w hlen e0 e1).mono ?_
    rw [q1]
    clear q1
    rintro e w' ⟨rfl, rfl⟩
    go_wp2
    go_ret
    exact ⟨ret_int he.out.symm, rfl⟩
   ·have q1 : szl (left - n - t) m = left - n - t - m := by unfold szl; rw [if_neg hlt2]
    have q2 : 0 ≤ left - n - t - m := by omega
    clear hc h hts hd hdv hl hm2 hm htl
    go_wp2_with fail
    refine (szIntS_max da m dc (left - n - t) w hlen e0 e1).mono ?_
    rw [q1]
    clear q1
    rintro e w' ⟨rfl, rfl⟩
    go_wp2
    go_round
    case rel => exact ⟨k + 1, by omega, by go_num, t + m, congrArg (Value.int .i64) (by omega), by omega, Hts.out.symm⟩
    case measure => simp [intOf]; omega
  ·have he : Hid (szl left (n + tot D) = left - n - t) := by
    show szl left (n + tot D) = left - n - t
    have : tot D = t := by rw [hT.out, List.take_of_length_le (by rw [← Hn.out]; omega)]
    unfold szl
    rw [this, if_neg (by omega)]
    omega
   have hge : (n : Int) ≤ (k : Int) := by omega
   clear h hl
   go_wp2
   go_ret
   exact ⟨ret_int he.out.symm, rfl⟩
set_option maxHeartbeats 1000000 in
theorem eqIntSS_yes (A1 A2 : Option Addr) (c1 c2 : Nat) (D E : List Dsc) (w : World) (B1 B2 : Nat) (h1 : RdD w B1 A1 c1 D) (h2 : RdD w B2 A2 c2 E) (hB1 : B1 ≤ w.heap.size) (hB2 : B2 ≤ w.heap.size) (hl : lists D = lists E) (hn : D.length ≤ 1073741824) (ht : tot D ≤ 1073741824) :
 Calls Tryz.prog 138 #[.slice A1 D.length c1, .slice A2 E.length c2] w fun e w' => e = .returned (.bool true) ∧ Below w.heap.size w w' := by
 have hle := len_lists hl
 rw [← hle]
 obtain ⟨n, hnn⟩ : ∃ n, n = D.length := ⟨_, rfl⟩
 rw [← hnn] at hn hle ⊢
 have Hn := Lib.hid hnn
 have Hl := Lib.hid hle
 have HL := Lib.hid hl
 clear hnn hle hl
 go_enter Tryz.func138, Tryz.ntmps138
 go_wp2
 go_loopw [5] (fun i wr => ∃ k : Nat, k ≤ n ∧ i = .int .i64 k ∧ Below w.heap.size w wr) (fun i _ => n - (intOf i).toNat)
 case atStart => exact ⟨0, Nat.zero_le _, rfl, Below.refl _ _⟩
 case round =>
  obtain ⟨k, hk, rfl, hbr⟩ := hrel
  by_cases hlt : k < n
  ·obtain ⟨d, hd, hm, hdv⟩ := dvs_at (D := D) (j := k) (by rw [← Hn.out]; exact hlt)
   obtain ⟨d', hd', hm', hdv'⟩ := dvs_at (D := E) (j := k) (by rw [← Hl.out]; exact hlt)
   have r1 := (h1.2 d hm).keep (hbr.drew.mono hB1) (Nat.le_refl _)
   have r2 := (h2.2 d' hm').keep (hbr.drew.mono hB2) (Nat.le_refl _)
   have hdd := lists_at HL.out hd hd'
   obtain ⟨b1, o1, rfl, l1, c1'⟩ := h1.1.2 (by rw [← Hn.out]; omega)
   obtain ⟨b2, o2, rfl, l2, c2'⟩ := h2.1.2 (by rw [← Hl.out]; omega)
   have f1 := (hbr.cell (p := ⟨b1, o1 + k, none⟩) (by show b1 < _; omega)).trans (c1' k (by rw [← Hn.out]; exact hlt))
   have f2 := (hbr.cell (p := ⟨b2, o2 + k, none⟩) (by show b2 < _; omega)).trans (c2' k (by rw [← Hl.out]; exact hlt))
   rw [hdv] at f1
   rw [hdv'] at f2
   have hm7 : d.2.2.length ≤ 1073741824 := by
    have h3 := tot_take_le D (k + 1)
    rw [take_at hd, tot_snoc] at h3
    omega
   obtain ⟨da, dc, dl⟩ := d
   obtain ⟨ea, ec, el⟩ := d'
   simp only [dv] at f1 f2 hdd r1 r2 hm7
   subst hdd
   have i1 : (k : Int) < (n : Int) := by omega
   have hz := hbr.size
   have R1 := Lib.hid r1
   have R2 := Lib.hid r2
   clear c1' c2' h1 h2 hd hd' hm hm' hdv hdv' r1 r2
   obtain ⟨m, hm2⟩ : ∃ m, m = dl.length := ⟨_, rfl⟩
   rw [← hm2] at f1 f2 hm7 R1 R2
   clear hm2
   go_wp2_with fail
   go_region_held3 (fun z => z.cell? ⟨b1, o1 + k, none⟩ = some (.slice da m dc) ∧ z.cell? ⟨b2, o2 + k, none⟩ = some (.slice ea m ec))
    (first | (refine ⟨?_, ?_⟩ <;> assumption) | (refine ⟨?_, ?_⟩ <;> (refine (hb.cell (by first | (show b1 < wr.heap.size; omega) | (show b2 < wr.heap.size; omega))).trans ?_; assumption)))
    ((go_at_call 31; (refine (eqIntS_yes _ _ _ _ _ _ _ _ _ R1.out R2.out (Nat.le_trans hB1 hz) (Nat.le_trans hB2 hz) (by omega)).mono ?_); rintro e w1 ⟨rfl, hb⟩))
   have HB := Lib.hid (hbr.drew.trans (hb.mono hbr.size))
   clear f1 f2 hb hbr
   go_wp2
   go_roundw
   case rel => exact ⟨k + 1, by omega, by go_num, HB.out⟩
   case measure => simp [intOf]; omega
  ·have hge : (n : Int) ≤ (k : Int) := by omega
   have HB := Lib.hid hbr
   clear hbr h1 h2
   go_wp2
   go_ret
   exact ⟨rfl, HB.out⟩
def cpd (E : List Dsc) : Nat → Value := fun i => if i < E.length then dvs E i else .slice none 0 0
theorem cpd_succ (E : List Dsc) (d : Dsc) : (fun i => if i = E.length then dv d else cpd E i) = cpd (E ++ [d]) := by
 funext i
 unfold cpd
 rw [List.length_append, List.length_singleton]
 by_cases h : i = E.length
 ·subst h; rw [if_pos rfl, if_pos (by omega), dvs_last]
 ·rw [if_neg h]
  by_cases h2 : i < E.length
  ·rw [if_pos h2, if_pos (by omega), dvs_left h2]
  ·rw [if_neg h2, if_neg (by omega)]
set_option maxHeartbeats 1000000 in
theorem toIntSS_any (A : Option Addr) (c : Nat) (D : List Dsc) (w : World) (B : Nat) (h : RdD w B A c D) (hB : B ≤ w.heap.size) (hn : D.length ≤ 1048576) (ht : tot D ≤ 1048576) :
 Calls Tryz.prog 127 #[.slice A D.length c] w fun e w' => ∃ (g : Nat) (E : List Dsc), w.heap.size ≤ g ∧ e = .returned (.slice (some ⟨g, 0, none⟩) E.length E.length) ∧ lists E = lists D ∧ OwnD w' w.heap.size w'.heap.size (some ⟨g, 0, none⟩) E.length E ∧ Below w.heap.size w w' := by
 obtain ⟨n, hnn⟩ : ∃ n, n = D.length := ⟨_, rfl⟩
 rw [← hnn] at hn ⊢
 have Hn := Lib.hid hnn
 clear hnn
 have hmk := fun W => run_make_row' (P := Tryz.prog) 48 22 (.slice none 0 0) 24 Tryz.underlying48 info_ints rfl .i64 .i64 n (by omega) (by omega) W
 go_enter Tryz.func127, Tryz.ntmps127
 go_wp2
 clear hmk
 go_loopw [4] (fun i wr => ∃ E : List Dsc, E.length ≤ n ∧ i = .int .i64 E.length ∧ Hid (lists E = lists (D.take E.length)) ∧ Own wr w.heap.size (w.heap.size + 1) 22 1 (some ⟨w.heap.size, 0, none⟩) n n (cpd E) ∧ Hid (∀ d ∈ E, Own wr (w.heap.size + 1) wr.heap.size 3 1 d.1 d.2.2.length d.2.1 (ii d.2.2)) ∧ Hid (Apart E) ∧ Below w.heap.size w wr ∧ w.heap.size < wr.heap.size) (fun i _ => n - (intOf i).toNat)
 case atStart =>
  refine ⟨[], Nat.zero_le _, rfl, by simp [Hid, lists], ?_, (fun d hd => by cases hd), List.Pairwise.nil, (Below.refl _ _).alloc (Nat.le_refl _) _, by simp⟩
  obtain ⟨cc, q1, q2, q3⟩ := World.rowIs_made w (.slice none 0 0) n 22
  exact .inr ⟨_, cc, rfl, Nat.le_refl _, Nat.lt_succ_self _, q1, Nat.le_refl _, by unfold maxLen; omega, by omega, fun j hj => by rw [q3 j (by omega)]; simp [cpd]⟩
 case round =>
  obtain ⟨E, hE, rfl, hL, hown, hin, hap, hbr, hz⟩ := hrel
  obtain ⟨j, hj⟩ : ∃ j, j = E.length := ⟨_, rfl⟩
  rw [← hj] at hE hL ⊢
  have Hj := Lib.hid hj
  by_cases hlt : j < n
  ·obtain ⟨d, hd, hm, hdv⟩ := dvs_at (D := D) (j := j) (by rw [← Hn.out]; exact hlt)
   have r1 := (h.2 d hm).keep (hbr.mono hB) (Nat.le_refl _)
   obtain ⟨b, o, rfl, lb, hc⟩ := h.1.2 (by rw [← Hn.out]; omega)
   have f1 := (hbr.cell (p := ⟨b, o + j, none⟩) (by show b < _; omega)).trans (hc j (by rw [← Hn.out]; exact hlt))
   rw [hdv] at f1
   have hm7 : d.2.2.length ≤ 1048576 := by
    have h3 := tot_take_le D (j + 1)
    rw [take_at hd, tot_snoc] at h3
    omega
   have HL : Hid (lists (D.take (j + 1)) = lists E ++ [d.2.2]) := by
    show lists (D.take (j + 1)) = lists E ++ [d.2.2]
    rw [take_at hd, hL.out]; simp [lists]
   obtain ⟨da, dc, dl⟩ := d
   simp only [dv] at f1 r1 hm7 HL
   have i1 : (j : Int) < (n : Int) := by omega
   have R1 := Lib.hid r1
   have HO := Lib.hid hown
   obtain ⟨m, hm2⟩ : ∃ m, m = dl.length := ⟨_, rfl⟩
   rw [← hm2] at f1 hm7 R1
   have Hm := Lib.hid hm2
   clear hc h hd hm hdv r1 hown hm2 hj hL
   go_wp2_with fail
   refine (toIntS_any da m dc _ wr B R1.out (by omega) hm7).mono ?_
   rintro e w1 ⟨g, hg, rfl, ho, hb⟩
   have ho1 := HO.out.keepB hb (by omega)
   obtain ⟨g0, e, g1, g2, g3, hc2, hf2⟩ := ho1.at_ (by omega)
   simp only [Option.some.injEq, Addr.mk.injEq, and_true] at e
   subst e
   have f2 := hc2 j (by omega)
   have f3 := hf2 j
   have hs := ho1.set_ j (dv (some ⟨g, 0, none⟩, m, dl))
   rw [show (fun i => if i = j then dv (some ⟨g, 0, none⟩, m, dl) else cpd E i) = cpd (E ++ [(some ⟨g, 0, none⟩, m, dl)]) by rw [Hj.out]; exact cpd_succ _ _] at hs
   have hb' := (hbr.trans (hb.mono hbr.size)).setCell (p := ⟨w.heap.size, j, none⟩) (Nat.le_refl _) (dv (some ⟨g, 0, none⟩, m, dl))
   have hfr : Fr w.heap.size (w.heap.size + 1) w1 (w1.setCell ⟨w.heap.size, j, none⟩ (dv (some ⟨g, 0, none⟩, m, dl))) := (Fr.refl _ _ _).setCell (p := ⟨w.heap.size, j, none⟩) (Nat.le_refl _) (Nat.lt_succ_self _) _
   have hzz := hb.size
   have hin2 : ∀ d ∈ E ++ [((some ⟨g, 0, none⟩, m, dl) : Dsc)], Own (w1.setCell ⟨w.heap.size, j, none⟩ (dv (some ⟨g, 0, none⟩, m, dl))) (w.heap.size + 1) w1.heap.size 3 1 d.1 d.2.2.length d.2.1 (ii d.2.2) := by
    intro d hd
    rw [List.mem_append, List.mem_singleton] at hd
    rcases hd with hd | rfl
    ·exact ((((hin.out d hd).keepB hb (Nat.le_refl _)).mono (Nat.le_refl _) hzz).keep hfr (.inr (Nat.le_refl _)))
    ·have h1 := (ho.keep hfr (.inr (by omega))).mono (lo' := w.heap.size + 1) (by omega) (Nat.le_refl _)
     rw [← Hm.out]
     exact h1
   have hap2 : Apart (E ++ [((some ⟨g, 0, none⟩, m, dl) : Dsc)]) := by
    refine List.pairwise_append.2 ⟨hap.out, List.pairwise_singleton _ _, ?_⟩
    intro e he f hf a h1
    rw [List.mem_singleton] at hf
    subst hf
    intro h2
    simp only [Option.some.injEq] at h2
    subst h2
    rcases (hin.out e he).at_block with h3 | ⟨g5, h3, h4, h5⟩
    ·rw [h3] at h1; cases h1
    ·rw [h1] at h3
     simp only [Option.some.injEq, Addr.mk.injEq, and_true] at h3
     omega
   have H1 := Lib.hid hs
   have H2 := Lib.hid hb'
   have H3 := Lib.hid hin2
   have H4 := Lib.hid hap2
   have hne : w.heap.size < w1.heap.size := by omega
   simp only [dv, ← Hm.out] at H1 H2 H3
   clear hc2 hf2 hs hb' hfr hin2 hap2 ho ho1 HO hb hbr hin hap f1 R1
   go_wp2
   go_roundw
   case rel =>
    refine ⟨E ++ [(some ⟨g, 0, none⟩, m, dl)], by rw [List.length_append, ← Hj.out, List.length_singleton]; omega, congrArg (Value.int .i64) (by rw [List.length_append, ← Hj.out, List.length_singleton]; omega), ?_, H1.out, ?_, H4, H2.out, by simpa [World.setCell] using hne⟩
    ·show lists (E ++ [(some ⟨g, 0, none⟩, m, dl)]) = lists (D.take (E ++ [((some ⟨g, 0, none⟩, m, dl) : Dsc)]).length)
     rw [List.length_append, ← Hj.out, List.length_singleton, HL.out]; simp [lists]
    ·intro d hd
     exact (H3.out d hd).mono (Nat.le_refl _) (by simp [World.setCell])
   case measure => simp [intOf]; omega
  ·obtain rfl : j = n := by omega
   have HL : Hid (lists E = lists D) := by
    show lists E = lists D
    rw [hL.out, List.take_of_length_le (by rw [← Hn.out]; exact Nat.le_refl _)]
   have HO := Lib.hid hown
   have HB := Lib.hid hbr
   clear hown hbr h hj hL
   go_wp2
   go_ret
   refine ⟨w.heap.size, E, Nat.le_refl _, by rw [← Hj.out]; rfl, HL.out, ⟨?_, fun d hd => (hin.out d hd).mono (by omega) (Nat.le_refl _), hap.out⟩, HB.out⟩
   have h1 := (HO.out.congr (y := dvs E) (fun i hi => by unfold cpd; rw [if_pos (by have := Hj.out; omega)])).lt
   rw [← Hj.out]
   exact h1.mono (Nat.le_refl _) (Nat.min_le_right _ _)
end Go.Proofs.YtdpkbfiggbcclaaGreat
/-
 append of all elements of a slice of integers that is only read onto a slice of integers of the call's own.
-/
namespace Go.Proofs.YtdpkbfiggbcclaaGreat
open Go.RowKit
def thenI (n : Nat) (x : Nat → Value) (y : Nat → Int) : Nat → Value := fun j => if j < n then x j else .int .i64 (y (j - n))
theorem run_appendI (w : World) (ty : TypeId) {lo hi B n c m c2 : Nat} {A A2 : Option Addr} {x : Nat → Value} {y : Nat → Int} (h : Own w lo hi 3 1 A n c x) (hr : Rd w B A2 m c2 y) (hlo : lo ≤ w.heap.size) (hn : n ≤ 1073741824) (hm : m ≤ 1073741824) :
 ∃ A' c' w', (Builtin.append_ #[22, 22] ty #[.slice A n c, .slice A2 m c2]).run Tryz.prog w = .ok (.slice A' (n + m) c') w' ∧ Own w' lo w'.heap.size 3 1 A' (n + m) c' (thenI n x y) ∧ Below lo w w' ∧ ((Value.slice A' (n + m) c').ownBlock = (Value.slice A n c).ownBlock ∨ (Value.slice A' (n + m) c').ownBlock = some w.heap.size) ∧ w.grownBy w' (Value.slice A n c).ownBlock := by
 obtain ⟨i, hi', hzz⟩ := Option.map_eq_some_iff.1 info_int
 simp only [Prod.mk.injEq] at hzz
 obtain ⟨hz, hsize, hbytes⟩ := hzz
 have main : ∀ v' w', w'.ownsRow lo 3 1 v' (n + m) ((List.range (n * 1)).map x ++ (List.range m).map fun k => .int .i64 (y k)) → w.grownBy w' (Value.slice A n c).ownBlock →
  ∃ A' c', v' = .slice A' (n + m) c' ∧ Own w' lo w'.heap.size 3 1 A' (n + m) c' (thenI n x y) ∧ Below lo w w' := by
  intro v' w' hrow hg
  obtain ⟨A', c', rfl⟩ := row_form hrow
  refine ⟨A', c', rfl, Own.of_row hrow (fun j hj => ?_), (Below.refl _ _).grown hg hlo (fun k hk => (h.block k hk).1)⟩
  rw [List.getElem?_append]
  simp only [List.length_map, List.length_range, Nat.mul_one]
  unfold thenI
  by_cases hj2 : j < n
  ·simp [hj2]
  ·rw [if_neg hj2, if_neg hj2, List.getElem?_map, List.getElem?_range (by omega)]
   rfl
 rcases A2 with _ | ad
 ·have hm0 : m = 0 := by
   rcases Nat.eq_zero_or_pos m with h0 | h0
   ·exact h0
   ·obtain ⟨b, o, he, _⟩ := hr.2 h0
    cases he
  subst hm0
  refine ⟨A, c, w, ?_, ?_, Below.refl _ _, .inl rfl, World.grownBy.refl w _⟩
  ·rcases h with ⟨rfl, rfl, rfl⟩ | ⟨g, cur, rfl, _, _, _, hnc, _⟩
   ·simp [Builtin.append_, run_underlying Tryz.underlying22, sizeOf, typeInfo, hi', Builtin.lenOf, Builtin.firstCells]
   ·simp [Builtin.append_, run_underlying Tryz.underlying22, sizeOf, typeInfo, hi', Builtin.lenOf, Builtin.firstCells, hnc, storeCells]
  ·exact (h.lt.mono (Nat.le_refl _) (Nat.min_le_right _ _)).congr (fun j hj => by unfold thenI; rw [if_pos (by omega)])
 ·have hcells : ∀ (j : Nat) (u : Value), ((List.range m).map fun k => Value.int .i64 (y k))[j]? = some u → w.cell? (ad.add j) = some u := by
   intro j u hu
   have hj : j < m := by
    have := (List.getElem?_eq_some_iff.1 hu).1
    simpa using this
   obtain ⟨b, o, he, _, hc⟩ := hr.2 (by omega)
   simp only [Option.some.injEq] at he
   subst he
   have hadd : (⟨b, o, none⟩ : Addr).add j = ⟨b, o + j, none⟩ := by unfold Addr.add; split <;> simp_all
   rw [hadd, hc j hj]
   simpa [hj] using hu
  obtain ⟨v', w', hrun, h2, h3, _, h5⟩ := run_append_own_at (P := Tryz.prog) w lo 22 ty 3 i _ 1 8 Tryz.underlying22 hi' hz hsize hbytes rfl (by omega) _ n _ h.row ad m c2 _ (by simp) hcells (by
   intro u hu
   obtain ⟨j, _, rfl⟩ := List.mem_map.1 hu
   rfl) (by unfold maxLen; omega) (by omega) hlo
  obtain ⟨A', c', rfl, hO, hB⟩ := main v' w' h2 h3
  exact ⟨A', c', w', hrun, hO, hB, h5, h3⟩
section
variable (w : World) {ops : Array Oper} {rest : List Oper} {o : Oper} {a : Act} {K : Act → World → Prop} {Q : Exit → Act → World → Prop} {E : Prop}
 {lo hi B n c m c2 : Nat} {A A2 : Option Addr} {x : Nat → Value} {y : Nat → Int}
theorem wp_appendI (s z : Operand)
 (ho : o.op = .call { callee := .builtin .append, args := #[s, z], argTypes := #[22, 22] })
 (hs : a.eval s = .slice A n c) (h : Own w lo hi 3 1 A n c x) (hz : a.eval z = .slice A2 m c2) (hr : Rd w B A2 m c2 y) (hlo : lo ≤ w.heap.size) (hn : n ≤ 1073741824) (hm : m ≤ 1073741824)
 (hK : ∀ A' c' w', Own w' lo w'.heap.size 3 1 A' (n + m) c' (thenI n x y) → Below lo w w' → K (a.put o.dst (.slice A' (n + m) c')) w') : o.wp Tryz.prog a w K Q := by
 obtain ⟨A', c', w', hrun, h2, h3, _⟩ := run_appendI w o.type h hr hlo hn hm
 unfold Oper.wp execOp
 simp only [ho, resolve, invoke, builtin, Sem.run_bind, Sem.run_pure, Result.andThen_ok, List.map_toArray, List.map_cons, List.map_nil, hs, hz, hrun]
 exact hK _ _ _ h2 h3
theorem wpList_appendI (hgd : o.guard = none) (s z : Operand)
 (ho : o.op = .call { callee := .builtin .append, args := #[s, z], argTypes := #[22, 22] })
 (hs : a.eval s = .slice A n c) (h : Own w lo hi 3 1 A n c x) (hz : a.eval z = .slice A2 m c2) (hr : Rd w B A2 m c2 y) (hlo : lo ≤ w.heap.size) (hn : n ≤ 1073741824) (hm : m ≤ 1073741824)
 (hK : ∀ A' c' w', Own w' lo w'.heap.size 3 1 A' (n + m) c' (thenI n x y) → Below lo w w' → wpList Tryz.prog ops Q rest (a.put o.dst (.slice A' (n + m) c')) w') : wpList Tryz.prog ops Q (o :: rest) a w :=
 wpList_plain hgd fun _ hK2 => wp_appendI w s z ho hs h hz hr hlo hn hm fun A' c' w' h2 h3 => hK2 _ _ (hK A' c' w' h2 h3)
theorem step_appendI (hgd : o.guard = none) (s z : Operand)
 (ho : o.op = .call { callee := .builtin .append, args := #[s, z], argTypes := #[22, 22] })
 (hs : a.eval s = .slice A n c) (h : Own w lo hi 3 1 A n c x) (hz : a.eval z = .slice A2 m c2) (hr : Rd w B A2 m c2 y) (hlo : lo ≤ w.heap.size) (hn : n ≤ 1073741824) (hm : m ≤ 1073741824)
 (hK : ∀ A' c' w', Own w' lo w'.heap.size 3 1 A' (n + m) c' (thenI n x y) → Below lo w w' → K (a.put o.dst (.slice A' (n + m) c')) w') :
 if Region.wanted o (yielded ops a.tmps) = true then Oper.wp Tryz.prog o a w K Q else E := by
 have hw : Region.wanted o (yielded ops a.tmps) = true := by simp [Region.wanted, hgd]
 rw [if_pos hw]
 exact wp_appendI w s z ho hs h hz hr hlo hn hm hK
end
end Go.Proofs.YtdpkbfiggbcclaaGreat
/-
 append of all elements of a slice of slices that is only read onto a slice of slices of the call's own.
-/
namespace Go.Proofs.YtdpkbfiggbcclaaGreat
open Go.RowKit
def thenV (n : Nat) (x y : Nat → Value) : Nat → Value := fun j => if j < n then x j else y (j - n)
theorem run_appendV (w : World) (ty : TypeId) {lo hi B n c m c2 : Nat} {A A2 : Option Addr} {x y : Nat → Value} (h : Own w lo hi 22 1 A n c x) (hr : RdV w B A2 m c2 y) (hy : ∀ k, (y k).oneCell' = true) (hlo : lo ≤ w.heap.size) (hn : n ≤ 1073741824) (hm : m ≤ 1073741824) :
 ∃ A' c' w', (Builtin.append_ #[48, 48] ty #[.slice A n c, .slice A2 m c2]).run Tryz.prog w = .ok (.slice A' (n + m) c') w' ∧ Own w' lo w'.heap.size 22 1 A' (n + m) c' (thenV n x y) ∧ Below lo w w' ∧ ((Value.slice A' (n + m) c').ownBlock = (Value.slice A n c).ownBlock ∨ (Value.slice A' (n + m) c').ownBlock = some w.heap.size) ∧ w.grownBy w' (Value.slice A n c).ownBlock := by
 obtain ⟨i, hi', hzz⟩ := Option.map_eq_some_iff.1 info_ints
 simp only [Prod.mk.injEq] at hzz
 obtain ⟨hz, hsize, hbytes⟩ := hzz
 have main : ∀ v' w', w'.ownsRow lo 22 1 v' (n + m) ((List.range (n * 1)).map x ++ (List.range m).map y) → w.grownBy w' (Value.slice A n c).ownBlock →
  ∃ A' c', v' = .slice A' (n + m) c' ∧ Own w' lo w'.heap.size 22 1 A' (n + m) c' (thenV n x y) ∧ Below lo w w' := by
  intro v' w' hrow hg
  obtain ⟨A', c', rfl⟩ := row_form hrow
  refine ⟨A', c', rfl, Own.of_row hrow (fun j hj => ?_), (Below.refl _ _).grown hg hlo (fun k hk => (h.block k hk).1)⟩
  rw [List.getElem?_append]
  simp only [List.length_map, List.length_range, Nat.mul_one]
  unfold thenV
  by_cases hj2 : j < n
  ·simp [hj2]
  ·rw [if_neg hj2, if_neg hj2, List.getElem?_map, List.getElem?_range (by omega)]
   rfl
 rcases A2 with _ | ad
 ·have hm0 : m = 0 := by
   rcases Nat.eq_zero_or_pos m with h0 | h0
   ·exact h0
   ·obtain ⟨b, o, he, _⟩ := hr.2 h0
    cases he
  subst hm0
  refine ⟨A, c, w, ?_, ?_, Below.refl _ _, .inl rfl, World.grownBy.refl w _⟩
  ·rcases h with ⟨rfl, rfl, rfl⟩ | ⟨g, cur, rfl, _, _, _, hnc, _⟩
   ·simp [Builtin.append_, run_underlying Tryz.underlying48, sizeOf, typeInfo, hi', Builtin.lenOf, Builtin.firstCells]
   ·simp [Builtin.append_, run_underlying Tryz.underlying48, sizeOf, typeInfo, hi', Builtin.lenOf, Builtin.firstCells, hnc, storeCells]
  ·exact (h.lt.mono (Nat.le_refl _) (Nat.min_le_right _ _)).congr (fun j hj => by unfold thenV; rw [if_pos (by omega)])
 ·have hcells : ∀ (j : Nat) (u : Value), ((List.range m).map y)[j]? = some u → w.cell? (ad.add j) = some u := by
   intro j u hu
   have hj : j < m := by
    have := (List.getElem?_eq_some_iff.1 hu).1
    simpa using this
   obtain ⟨b, o, he, _, hc⟩ := hr.2 (by omega)
   simp only [Option.some.injEq] at he
   subst he
   have hadd : (⟨b, o, none⟩ : Addr).add j = ⟨b, o + j, none⟩ := by unfold Addr.add; split <;> simp_all
   rw [hadd, hc j hj]
   simpa [hj] using hu
  obtain ⟨v', w', hrun, h2, h3, _, h5⟩ := run_append_own_at (P := Tryz.prog) w lo 48 ty 22 i _ 1 24 Tryz.underlying48 hi' hz hsize hbytes rfl (by omega) _ n _ h.row ad m c2 _ (by simp) hcells (by
   intro u hu
   obtain ⟨j, _, rfl⟩ := List.mem_map.1 hu
   exact hy j) (by unfold maxLen; omega) (by omega) hlo
  obtain ⟨A', c', rfl, hO, hB⟩ := main v' w' h2 h3
  exact ⟨A', c', w', hrun, hO, hB, h5, h3⟩
section
variable (w : World) {ops : Array Oper} {rest : List Oper} {o : Oper} {a : Act} {K : Act → World → Prop} {Q : Exit → Act → World → Prop} {E : Prop}
 {lo hi B n c m c2 : Nat} {A A2 : Option Addr} {x y : Nat → Value}
theorem wp_appendV (s z : Operand)
 (ho : o.op = .call { callee := .builtin .append, args := #[s, z], argTypes := #[48, 48] })
 (hs : a.eval s = .slice A n c) (h : Own w lo hi 22 1 A n c x) (hz : a.eval z = .slice A2 m c2) (hr : RdV w B A2 m c2 y) (hy : ∀ k, (y k).oneCell' = true) (hlo : lo ≤ w.heap.size) (hn : n ≤ 1073741824) (hm : m ≤ 1073741824)
 (hK : ∀ A' c' w', Own w' lo w'.heap.size 22 1 A' (n + m) c' (thenV n x y) → Below lo w w' → K (a.put o.dst (.slice A' (n + m) c')) w') : o.wp Tryz.prog a w K Q := by
 obtain ⟨A', c', w', hrun, h2, h3, _⟩ := run_appendV w o.type h hr hy hlo hn hm
 unfold Oper.wp execOp
 simp only [ho, resolve, invoke, builtin, Sem.run_bind, Sem.run_pure, Result.andThen_ok, List.map_toArray, List.map_cons, List.map_nil, hs, hz, hrun]
 exact hK _ _ _ h2 h3
theorem wpList_appendV (hgd : o.guard = none) (s z : Operand)
 (ho : o.op = .call { callee := .builtin .append, args := #[s, z], argTypes := #[48, 48] })
 (hs : a.eval s = .slice A n c) (h : Own w lo hi 22 1 A n c x) (hz : a.eval z = .slice A2 m c2) (hr : RdV w B A2 m c2 y) (hy : ∀ k, (y k).oneCell' = true) (hlo : lo ≤ w.heap.size) (hn : n ≤ 1073741824) (hm : m ≤ 1073741824)
 (hK : ∀ A' c' w', Own w' lo w'.heap.size 22 1 A' (n + m) c' (thenV n x y) → Below lo w w' → wpList Tryz.prog ops Q rest (a.put o.dst (.slice A' (n + m) c')) w') : wpList Tryz.prog ops Q (o :: rest) a w :=
 wpList_plain hgd fun _ hK2 => wp_appendV w s z ho hs h hz hr hy hlo hn hm fun A' c' w' h2 h3 => hK2 _ _ (hK A' c' w' h2 h3)
end
end Go.Proofs.YtdpkbfiggbcclaaGreat
/-
 Contracts: a copy of a graph in new memory, of both programs; two bits turned.
-/
namespace Go.Proofs.YtdpkbfiggbcclaaGreat
open Go.RowKit
set_option maxHeartbeats 1000000 in
theorem l2Copy_any (sz : Int) (A : Option Addr) (m c : Nat) (x : Nat → Int) (w : World) (B : Nat) (h : Rd w B A m c x) (hB : B ≤ w.heap.size) (hm : m ≤ 1048576) :
 Calls Tryz.prog 96 #[.agg #[.int .i64 sz, .slice A m c]] w fun e w' => ∃ A' c', e = .returned (.agg #[.int .i64 sz, .slice A' m c']) ∧ Own w' (w.heap.size + 2) w'.heap.size 3 1 A' m c' (fun j => .int .i64 (x j)) ∧ Below w.heap.size w w' := by
 obtain ⟨W, hW⟩ : ∃ W : World, W = ((w.alloc (Obj.cells #[Value.int IntKind.i64 sz, Value.slice A m c] 28)).alloc (Obj.cells #[Value.int IntKind.i64 0, Value.slice none 0 0] 28)) := ⟨_, rfl⟩
 have HB : Hid (Below w.heap.size w W) := by rw [hW]; exact ((Below.refl _ _).alloc (Nat.le_refl _) _).alloc (by simp) _
 have HZ : Hid (w.heap.size + 2 = W.heap.size) := by rw [hW]; simp [Hid]
 have e0 : W.cell? ⟨w.heap.size, 0, none⟩ = some (.int .i64 sz) := by rw [hW]; simp [go_sem]
 have e1 : W.cell? ⟨w.heap.size, 1, none⟩ = some (.slice A m c) := by rw [hW]; simp [go_sem]
 have e2 : W.cell? ⟨w.heap.size + 1, 0, none⟩ = some (.int .i64 0) := by rw [hW]; simp [go_sem]
 have e3 : W.cell? ⟨w.heap.size + 1, 1, none⟩ = some (.slice none 0 0) := by rw [hW]; simp [go_sem]
 have e4 : W.frozen? ⟨w.heap.size + 1, 0, none⟩ = false := by rw [hW]; simp [go_sem]
 have e5 : W.frozen? ⟨w.heap.size + 1, 1, none⟩ = false := by rw [hW]; simp [go_sem]
 have k1 := h.keep (HB.out.mono hB) (Nat.le_refl _)
 have HK := Lib.hid k1
 have HW := Lib.hid hW
 clear hW h k1
 go_enter Tryz.func96, Tryz.ntmps96
 go_wp2_with fail
 rw [← HW.out]
 have HO : Hid (Own ((W.alloc (Obj.cells #[] 3)).drew) W.heap.size (W.heap.size + 1) 3 1 (some ⟨W.heap.size, 0, none⟩) 0 0 (fun _ => .int .i64 0)) :=
  .inr ⟨W.heap.size, #[], rfl, Nat.le_refl _, Nat.lt_succ_self _, heap_alloc_new W _, Nat.le_refl _, by unfold maxLen; omega, rfl, fun j hj => absurd hj (by omega)⟩
 have d2 : ((W.alloc (Obj.cells #[] 3)).drew).cell? ⟨w.heap.size + 1, 0, none⟩ = some (.int .i64 0) := (World.cell?_alloc_lt W _ ⟨w.heap.size + 1, 0, none⟩ (by have := HZ.out; show w.heap.size + 1 < _; omega)).trans e2
 have d3 : ((W.alloc (Obj.cells #[] 3)).drew).cell? ⟨w.heap.size + 1, 1, none⟩ = some (.slice none 0 0) := (World.cell?_alloc_lt W _ ⟨w.heap.size + 1, 1, none⟩ (by have := HZ.out; show w.heap.size + 1 < _; omega)).trans e3
 have d4 : ((W.alloc (Obj.cells #[] 3)).drew).frozen? ⟨w.heap.size + 1, 0, none⟩ = false := (World.frozen?_of_block (Below.heap_alloc W _ (w.heap.size + 1) (by have := HZ.out; omega))).trans e4
 have d5 : ((W.alloc (Obj.cells #[] 3)).drew).frozen? ⟨w.heap.size + 1, 1, none⟩ = false := (World.frozen?_of_block (Below.heap_alloc W _ (w.heap.size + 1) (by have := HZ.out; omega))).trans e5
 have HR : Hid (Rd ((W.alloc (Obj.cells #[] 3)).drew) B A m c x) := HK.out.keep (((Below.refl B W).alloc (by have := HZ.out; omega) _).drew) (Nat.le_refl _)
 go_region_held3 (fun z => z.cell? ⟨w.heap.size, 0, none⟩ = some (.int .i64 sz) ∧ z.cell? ⟨w.heap.size, 1, none⟩ = some (.slice A m c))
  (first | (refine ⟨?_, ?_⟩ <;> assumption) | go_keep | (refine ⟨?_, ?_⟩ <;> (refine (hb.cell (by have := HZ.out; show w.heap.size < _; omega)).trans ?_; go_keep)))
  ((refine step_appendI _ (by rfl) _ _ (by rfl) (by rfl) HO.out (by rfl) HR.out (by simp) (by omega) (by omega) ?_; intro A' c' w1 hO hb; have r2 := up hb d2 (by have := HZ.out; omega); have r3 := up hb d3 (by have := HZ.out; omega); have r4 := upf hb d4 (by have := HZ.out; omega); have r5 := upf hb d5 (by have := HZ.out; omega)))
 have hz2 := hb.size
 simp at hz2
 rw [Nat.zero_add] at hO
 have HO2 := Lib.hid hO
 have HB2 : Hid (Below w.heap.size w w1) := HB.out.trans (((((Below.refl W.heap.size W).alloc (Nat.le_refl _) _).drew).trans hb).mono (by have := HZ.out; omega))
 clear hO hb d2 d3 d4 d5 e0 e1 e2 e3 e4 e5 HO HR HK HW
 go_wp2
 have F : Fr (w.heap.size + 1) (w.heap.size + 2) w1 _ := ((Fr.refl _ _ _).setCell (p := ⟨w.heap.size + 1, 0, none⟩) (by show w.heap.size + 1 ≤ w.heap.size + 1; omega) (by show w.heap.size + 1 < _; omega) (Value.int IntKind.i64 sz)).setCell (p := ⟨w.heap.size + 1, 1, none⟩) (by show w.heap.size + 1 ≤ w.heap.size + 1; omega) (by show w.heap.size + 1 < _; omega) (Value.slice A' m c')
 have O1 := ((HO2.out.keep F (.inr (by have := HZ.out; omega))).mono (lo' := w.heap.size + 2) (by have := HZ.out; omega) F.size)
 exact bodyPost_ret (v := .agg #[.int .i64 sz, .slice A' m c']) (by simp [results, Tryz.results96, go_sem, *]) rfl ⟨A', c', rfl, O1.congr (fun j hj => by unfold thenI; simp), HB2.out.trans (F.below (by omega) (by have := HZ.out; omega))⟩
set_option maxHeartbeats 1000000 in
theorem copyGraph_any (sz : Int) (A : Option Addr) (m c : Nat) (x : Nat → Int) (w : World) (B : Nat) (h : Rd w B A m c x) (hB : B ≤ w.heap.size) (hm : m ≤ 1048576) :
 Calls Tryz.prog 141 #[.agg #[.int .i64 sz, .slice A m c]] w fun e w' => ∃ A' c', e = .returned (.agg #[.int .i64 sz, .slice A' m c']) ∧ Own w' (w.heap.size + 2) w'.heap.size 3 1 A' m c' (fun j => .int .i64 (x j)) ∧ Below w.heap.size w w' := by
 obtain ⟨W, hW⟩ : ∃ W : World, W = ((w.alloc (Obj.cells #[Value.int IntKind.i64 sz, Value.slice A m c] 28)).alloc (Obj.cells #[Value.int IntKind.i64 0, Value.slice none 0 0] 28)) := ⟨_, rfl⟩
 have HB : Hid (Below w.heap.size w W) := by rw [hW]; exact ((Below.refl _ _).alloc (Nat.le_refl _) _).alloc (by simp) _
 have HZ : Hid (w.heap.size + 2 = W.heap.size) := by rw [hW]; simp [Hid]
 have e0 : W.cell? ⟨w.heap.size, 0, none⟩ = some (.int .i64 sz) := by rw [hW]; simp [go_sem]
 have e1 : W.cell? ⟨w.heap.size, 1, none⟩ = some (.slice A m c) := by rw [hW]; simp [go_sem]
 have e2 : W.cell? ⟨w.heap.size + 1, 0, none⟩ = some (.int .i64 0) := by rw [hW]; simp [go_sem]
 have e3 : W.cell? ⟨w.heap.size + 1, 1, none⟩ = some (.slice none 0 0) := by rw [hW]; simp [go_sem]
 have e4 : W.frozen? ⟨w.heap.size + 1, 0, none⟩ = false := by rw [hW]; simp [go_sem]
 have e5 : W.frozen? ⟨w.heap.size + 1, 1, none⟩ = false := by rw [hW]; simp [go_sem]
 have k1 := h.keep (HB.out.mono hB) (Nat.le_refl _)
 have HK := Lib.hid k1
 have HW := Lib.hid hW
 clear hW h k1
 go_enter Tryz.func141, Tryz.ntmps141
 go_wp2_with fail
 rw [← HW.out]
 have HO : Hid (Own ((W.alloc (Obj.cells #[] 3)).drew) W.heap.size (W.heap.size + 1) 3 1 (some ⟨W.heap.size, 0, none⟩) 0 0 (fun _ => .int .i64 0)) :=
  .inr ⟨W.heap.size, #[], rfl, Nat.le_refl _, Nat.lt_succ_self _, heap_alloc_new W _, Nat.le_refl _, by unfold maxLen; omega, rfl, fun j hj => absurd hj (by omega)⟩
 have d2 : ((W.alloc (Obj.cells #[] 3)).drew).cell? ⟨w.heap.size + 1, 0, none⟩ = some (.int .i64 0) := (World.cell?_alloc_lt W _ ⟨w.heap.size + 1, 0, none⟩ (by have := HZ.out; show w.heap.size + 1 < _; omega)).trans e2
 have d3 : ((W.alloc (Obj.cells #[] 3)).drew).cell? ⟨w.heap.size + 1, 1, none⟩ = some (.slice none 0 0) := (World.cell?_alloc_lt W _ ⟨w.heap.size + 1, 1, none⟩ (by have := HZ.out; show w.heap.size + 1 < _; omega)).trans e3
 have d4 : ((W.alloc (Obj.cells #[] 3)).drew).frozen? ⟨w.heap.size + 1, 0, none⟩ = false := (World.frozen?_of_block (Below.heap_alloc W _ (w.heap.size + 1) (by have := HZ.out; omega))).trans e4
 have d5 : ((W.alloc (Obj.cells #[] 3)).drew).frozen? ⟨w.heap.size + 1, 1, none⟩ = false := (World.frozen?_of_block (Below.heap_alloc W _ (w.heap.size + 1) (by have := HZ.out; omega))).trans e5
 have HR : Hid (Rd ((W.alloc (Obj.cells #[] 3)).drew) B A m c x) := HK.out.keep (((Below.refl B W).alloc (by have := HZ.out; omega) _).drew) (Nat.le_refl _)
 go_region_held3 (fun z => z.cell? ⟨w.heap.size, 0, none⟩ = some (.int .i64 sz) ∧ z.cell? ⟨w.heap.size, 1, none⟩ = some (.slice A m c))
  (first | (refine ⟨?_, ?_⟩ <;> assumption) | go_keep | (refine ⟨?_, ?_⟩ <;> (refine (hb.cell (by have := HZ.out; show w.heap.size < _; omega)).trans ?_; go_keep)))
  ((refine step_appendI _ (by rfl) _ _ (by rfl) (by rfl) HO.out (by rfl) HR.out (by simp) (by omega) (by omega) ?_; intro A' c' w1 hO hb; have r2 := up hb d2 (by have := HZ.out; omega); have r3 := up hb d3 (by have := HZ.out; omega); have r4 := upf hb d4 (by have := HZ.out; omega); have r5 := upf hb d5 (by have := HZ.out; omega)))
 have hz2 := hb.size
 simp at hz2
 rw [Nat.zero_add] at hO
 have HO2 := Lib.hid hO
 have HB2 : Hid (Below w.heap.size w w1) := HB.out.trans (((((Below.refl W.heap.size W).alloc (Nat.le_refl _) _).drew).trans hb).mono (by have := HZ.out; omega))
 clear hO hb d2 d3 d4 d5 e0 e1 e2 e3 e4 e5 HO HR HK HW
 go_wp2
 have F : Fr (w.heap.size + 1) (w.heap.size + 2) w1 _ := ((Fr.refl _ _ _).setCell (p := ⟨w.heap.size + 1, 0, none⟩) (by show w.heap.size + 1 ≤ w.heap.size + 1; omega) (by show w.heap.size + 1 < _; omega) (Value.int IntKind.i64 sz)).setCell (p := ⟨w.heap.size + 1, 1, none⟩) (by show w.heap.size + 1 ≤ w.heap.size + 1; omega) (by show w.heap.size + 1 < _; omega) (Value.slice A' m c')
 have O1 := ((HO2.out.keep F (.inr (by have := HZ.out; omega))).mono (lo' := w.heap.size + 2) (by have := HZ.out; omega) F.size)
 exact bodyPost_ret (v := .agg #[.int .i64 sz, .slice A' m c']) (by simp [results, Tryz.results141, go_sem, *]) rfl ⟨A', c', rfl, O1.congr (fun j hj => by unfold thenI; simp), HB2.out.trans (F.below (by omega) (by have := HZ.out; omega))⟩
end Go.Proofs.YtdpkbfiggbcclaaGreat
/-
 Contracts: two bits of a graph turned.
-/
namespace Go.Proofs.YtdpkbfiggbcclaaGreat
open Go.RowKit
theorem bits_flip {a u : Nat} (ha : a < 128) (hu : u < 7) : bits .xor .i64 (a : Int) (2 ^ u) = ((a ^^^ 2 ^ u : Nat) : Int) := by
 have h2 := two_pow_le (n := u) (by omega)
 have := i64_xor_nat a (2 ^ u) (by omega) (by omega)
 rw [← this]; simp
set_option maxHeartbeats 1000000 in
theorem flip_any (sz : Int) (g m c : Nat) (x : Nat → Nat) (v u : Nat) (w : World) (lo hi : Nat) (h : Own w lo hi 3 1 (some ⟨g, 0, none⟩) m c (fun j => .int .i64 (x j))) (_hhi : hi ≤ w.heap.size) (hm : m ≤ 7) (hv : v < m) (hu : u < m) (hne : v ≠ u) (hx : ∀ j, j < m → x j < 128) :
 Calls Tryz.prog 286 #[.agg #[.int .i64 sz, .slice (some ⟨g, 0, none⟩) m c], .int .i64 v, .int .i64 u] w fun e w' => e = .returned (.tuple #[]) ∧ Own w' lo hi 3 1 (some ⟨g, 0, none⟩) m c (fun j => .int .i64 (addN x v u j)) ∧ Fr lo hi w w' := by
 obtain ⟨g', e1, hg1, hg2, hg3, hc, hf⟩ := h.at_ (by omega)
 simp only [Option.some.injEq, Addr.mk.injEq, and_true] at e1
 subst e1
 have q1 := hc v (by omega)
 have q2 := hc u (by omega)
 have b1 := bits_flip (hx v hv) (u := u) (by omega)
 have b2 := bits_flip (hx u hu) (u := v) (by omega)
 have f1 := hf v
 have f2 := hf u
 have p1 := pow_shl v (by omega)
 have p2 := pow_shl u (by omega)
 have i1 : (v : Int) < (m : Int) := by omega
 have i2 : (u : Int) < (m : Int) := by omega
 have HH := Lib.hid h
 have HX := Lib.hid hx
 clear h hc hf hx
 go_enter Tryz.func286, Tryz.ntmps286
 go_wp2_with fail
 go_region
 have hgn : g ≠ w.heap.size := by omega
 have hne2 : (u = v) = False := by simp; omega
 have hne3 : (v = u) = False := by simp; omega
 go_wp2
 go_region
 have O1 : Hid (Own (((w.setCell ⟨g, v, none⟩ (.int .i64 ((x v ^^^ 2 ^ u : Nat) : Int))).setCell ⟨g, u, none⟩ (.int .i64 ((x u ^^^ 2 ^ v : Nat) : Int))).alloc (Obj.cells #[Value.int IntKind.i64 sz, Value.slice (some ⟨g, 0, none⟩) m c] 28)).drew.drew lo hi 3 1 (some ⟨g, 0, none⟩) m c (fun j => .int .i64 (addN x v u j))) := by
  refine (((((HH.out.set_ v _).set_ u _).alloc _).drew).drew).congr (fun j hj => ?_)
  unfold addN
  by_cases h1 : j = u
  ·subst h1; rw [if_pos rfl, if_neg (fun e => hne e.symm), if_pos rfl]
  ·rw [if_neg h1]
   by_cases h2 : j = v
   ·subst h2; rw [if_pos rfl, if_pos rfl]
   ·rw [if_neg h2, if_neg h2, if_neg h1]
 have F1 : Hid (Fr lo hi w (((w.setCell ⟨g, v, none⟩ (.int .i64 ((x v ^^^ 2 ^ u : Nat) : Int))).setCell ⟨g, u, none⟩ (.int .i64 ((x u ^^^ 2 ^ v : Nat) : Int))).alloc (Obj.cells #[Value.int IntKind.i64 sz, Value.slice (some ⟨g, 0, none⟩) m c] 28)).drew.drew) :=
  ((((Fr.refl lo hi w).setCell (p := ⟨g, v, none⟩) hg1 hg2 _).setCell (p := ⟨g, u, none⟩) hg1 hg2 _).alloc _).drew.drew
 clear q1 q2 b1 b2 f1 f2 p1 p2
 go_end0
 exact ⟨rfl, O1.out, F1.out⟩
end Go.Proofs.YtdpkbfiggbcclaaGreat
/-
 The pairs of n vertices in lexicographic order, gone through one after the other; plain lists, no program.
-/
namespace Go.Proofs.YtdpkbfiggbcclaaGreat
def prRow (n v : Nat) : List (Nat × Nat) := (List.range' (v + 1) (n - (v + 1))).map fun w => (v, w)
def prTo (n v w : Nat) : List (Nat × Nat) := (List.range v).flatMap (prRow n) ++ (List.range' (v + 1) (w - (v + 1))).map fun u => (v, u)
def pr (n : Nat) : List (Nat × Nat) := (List.range n).flatMap (prRow n)
end Go.Proofs.YtdpkbfiggbcclaaGreat
/-
 Slices of edits: what they read as; the law's helpers on them.
-/
namespace Go.Proofs.YtdpkbfiggbcclaaGreat
open Go.RowKit
end Go.Proofs.YtdpkbfiggbcclaaGreat
/-
 Contracts: the edges of a graph, of both programs; whether two vertices of a good graph are neighbours.
-/
namespace Go.Proofs.YtdpkbfiggbcclaaGreat
open Go.RowKit
end Go.Proofs.YtdpkbfiggbcclaaGreat
/-
 Contracts of the reference: whether two vertices of a good graph are neighbours; the edges of a graph.
-/
namespace Go.Proofs.YtdpkbfiggbcclaaGreat
open Go.RowKit
theorem l2Edge_any (s : Int) (b o m c : Nat) (w : World) (v u : Nat) (y : Int) (hy : w.cell? ⟨b, o + v, none⟩ = some (.int .i64 y)) (hb : b < w.heap.size) (hv : v < m) (h0 : 0 ≤ y) (h1 : y < 16777216) (hu : u ≤ 63) :
 Calls Tryz.prog 85 #[.agg #[.int .i64 s, .slice (some ⟨b, o, none⟩) m c], .int .i64 v, .int .i64 u] w fun e w' => e = .returned (.bool (y.toNat.testBit u)) ∧ Below w.heap.size w w' := by
 have HB : Hid (Below w.heap.size w (w.alloc (Obj.cells #[Value.int IntKind.i64 s, Value.slice (some ⟨b, o, none⟩) m c] 28))) := (Below.refl _ _).alloc (Nat.le_refl _) _
 have E := and_one_i64 y u h0 h1
 have H := Lib.hid E
 have hv' : (v : Int) < (m : Int) := by omega
 have q := (HB.out.cell (p := ⟨b, o + v, none⟩) hb).trans hy
 clear E hy
 go_enter Tryz.func85, Tryz.ntmps85
 go_wp2
 go_ret
 exact ⟨ret_bool H.out, HB.out⟩
end Go.Proofs.YtdpkbfiggbcclaaGreat
/-
 Contracts: the optional edges between two graphs, of both programs.
-/
namespace Go.Proofs.YtdpkbfiggbcclaaGreat
open Go.RowKit
theorem OwnD.pair {w : World} {lo hi c k : Nat} {A Ad : Option Addr} {cd : Nat} {v u : Int} {D : List Dsc} (h : OwnD w lo hi A c D) (hk : D[k]? = some (Ad, cd, [v, u])) :
 ∃ g gd, A = some ⟨g, 0, none⟩ ∧ Ad = some ⟨gd, 0, none⟩ ∧ w.cell? ⟨g, k, none⟩ = some (.slice Ad 2 cd) ∧ w.cell? ⟨gd, 0, none⟩ = some (.int .i64 v) ∧ w.cell? ⟨gd, 1, none⟩ = some (.int .i64 u) := by
 obtain ⟨hlt, he⟩ := List.getElem?_eq_some_iff.1 hk
 obtain ⟨g, e1, _, _, _, h1, _⟩ := h.1.at_ (by omega)
 obtain ⟨gd, e2, _, _, _, h2, _⟩ := (h.2.1 (Ad, cd, [v, u]) (List.mem_of_getElem? hk)).at_ (by show 0 < 2; omega)
 refine ⟨g, gd, e1, e2, ?_, h2 0 (by show 0 < 2 * 1; omega), h2 1 (by show 1 < 2 * 1; omega)⟩
 rw [h1 k (by omega)]
 unfold dvs
 simp [List.getD, hk, dv]
end Go.Proofs.YtdpkbfiggbcclaaGreat
/-
 Contract: all pairs of n vertices.
-/
namespace Go.Proofs.YtdpkbfiggbcclaaGreat
open Go.RowKit
def pl (n v u : Nat) : List (List Int) := (prTo n v u).map fun p => [(p.1 : Int), (p.2 : Int)]
end Go.Proofs.YtdpkbfiggbcclaaGreat
/-
 Plain lists of edits, and pushes onto slices of edits.
-/
namespace Go.Proofs.YtdpkbfiggbcclaaGreat
open Go.RowKit
theorem Pushed.caged {w w' : World} {lo g size n c g' cap : Nat} {e : TypeId} {x : Nat → Value} (hp : Pushed w w' lo e size (some ⟨g, 0, none⟩) n c x g' cap) :
 Own w' g' (g' + 1) e size (some ⟨g', 0, none⟩) (n + 1) cap x ∧ (g' = g ∨ g' = w.heap.size) ∧ g' < w'.heap.size ∧ Fr g (g + 1) w w' := by
 have hg' : g' = g ∨ g' = w.heap.size := by
  rcases hp.at_ with h | h
  ·simp [Value.ownBlock] at h; exact .inl h.symm
  ·exact .inr h
 rcases hp.own with ⟨h, _⟩ | ⟨g1, cur, k1, k2, k3, r⟩
 ·cases h
 ·simp only [Option.some.injEq, Addr.mk.injEq, and_true] at k1
  subst k1
  refine ⟨.inr ⟨g', cur, rfl, Nat.le_refl _, Nat.lt_succ_self _, r⟩, hg', k3, ⟨hp.grown.os, hp.grown.tape, hp.grown.output, hp.grown.size, fun k hk ho => hp.grown.block k hk ?_⟩⟩
  simp [Value.ownBlock]
  omega
end Go.Proofs.YtdpkbfiggbcclaaGreat
/-
 Contracts: a set's list, of both programs.
-/
namespace Go.Proofs.YtdpkbfiggbcclaaGreat
open Go.RowKit
def ni (l : List Nat) : Nat → Value := fun i => .int .i64 ((l.getD i 0 : Nat) : Int)
theorem ni_left {l : List Nat} {k j : Nat} (h : j < l.length * 1) : ni (l ++ [k]) j = ni l j := by
 unfold ni; simp [List.getD, List.getElem?_append_left (by omega : j < l.length)]
theorem ni_news {l : List Nat} {k : Nat} : ∀ i, i < 1 → (#[Value.int .i64 (k : Int)] : Array Value)[i]? = some (ni (l ++ [k]) (l.length * 1 + i)) := by
 intro i hi
 obtain rfl : i = 0 := by omega
 unfold ni; simp [List.getD]
theorem ni_at {l : List Nat} {j : Nat} (h : j < l.length) : ni l j = .int .i64 (l[j] : Int) := by unfold ni; simp [List.getD, h]
theorem wpList_pushN (W : World) {ops : Array Oper} {rest : List Oper} {o : Oper} {a : Act} {Q : Exit → Act → World → Prop} (hgd : o.guard = none) (s y : Operand)
 (ho : o.op = .call { callee := .builtin .append, args := #[s, y], argTypes := #[22, 22] })
 (lo hi : Nat) (A : Option Addr) (c : Nat) (T : List Nat) (h : Own W lo hi 3 1 A T.length c (ni T)) (hlo : lo ≤ W.heap.size) (k : Nat) (hs : a.eval s = .slice A T.length c) (cx H : Nat) (hH : W.heap.size = H) (hy : a.eval y = .slice (some ⟨H, 0, none⟩) 1 cx)
 (hn : T.length ≤ 1073741824)
 (hK : ∀ g cap w', Own w' lo w'.heap.size 3 1 (some ⟨g, 0, none⟩) (T.length + 1) cap (ni (T ++ [k])) → Below lo W w' → wpList Tryz.prog ops Q rest (a.put o.dst (.slice (some ⟨g, 0, none⟩) (T.length + 1) cap)) w') :
 wpList Tryz.prog ops Q (o :: rest) a (W.alloc (Obj.cells #[.int .i64 (k : Int)] 3)) := by
 subst hH
 have ha := h.alloc (Obj.cells #[.int .i64 (k : Int)] 3)
 refine wpList_push (W.alloc (Obj.cells #[.int .i64 (k : Int)] 3)) hgd s y 22 ho 3 _ 1 8 Tryz.underlying22 info_int rfl (by omega) lo hi A T.length c (ni (T ++ [k])) hs
  (ha.congr (fun j hj => (ni_left hj).symm)) (by simp; omega) W.heap.size #[.int .i64 (k : Int)] 3 (0, 0) cx (heap_alloc_new W _) hy rfl ni_news (by simp [Value.oneCell']) hn (by omega) ?_
 intro g cap w' hp
 exact hK g cap w' hp.own (((Below.refl _ _).alloc hlo _).trans hp.below)
set_option maxHeartbeats 1000000 in
theorem ListOf_i (s : Nat) (hs : s < 128) (w : World) :
 Calls Tryz.prog 267 #[.int .i64 s] w fun e w' => ∃ A c, e = .returned (.slice A (listN s).length c) ∧ Own w' w.heap.size w'.heap.size 3 1 A (listN s).length c (ni (listN s)) ∧ Below w.heap.size w w' := by
 obtain ⟨W, hW⟩ : ∃ W : World, W = w.alloc (Obj.cells #[] 3) := ⟨_, rfl⟩
 have HB : Hid (Below w.heap.size w W) := by rw [hW]; exact (Below.refl _ _).alloc (Nat.le_refl _) _
 have hz1 : w.heap.size < W.heap.size := by rw [hW]; simp
 have HO : Hid (Own W w.heap.size W.heap.size 3 1 (some ⟨w.heap.size, 0, none⟩) 0 0 (ni [])) := by
  refine .inr ⟨w.heap.size, #[], rfl, Nat.le_refl _, hz1, ?_, Nat.le_refl _, by unfold maxLen; omega, rfl, fun j hj => absurd hj (by omega)⟩
  rw [hW]
  exact heap_alloc_new w _
 have HW := Lib.hid hW
 clear hW
 go_enter Tryz.func267, Tryz.ntmps267
 go_wp2_with (first | (go_at_call 193; refine (within_yes _ _ _ _ (by omega) (by omega)).mono ?_; rintro e w' ⟨rfl, rfl⟩))
 rw [← HW.out]
 clear HW
 go_loopw [3, 10] (fun l i wr => ∃ (k : Nat) (A' : Option Addr) (c' : Nat), k ≤ 7 ∧ i = .int .i64 k ∧ l = .slice A' (listK s k).length c' ∧ Hid (Own wr w.heap.size wr.heap.size 3 1 A' (listK s k).length c' (ni (listK s k))) ∧ Hid (Below w.heap.size w wr)) (fun _ i _ => 7 - (intOf i).toNat)
 case atStart => exact ⟨0, _, 0, Nat.zero_le _, rfl, rfl, HO, HB⟩
 case round =>
  obtain ⟨k, A', c', hk, rfl, rfl, hO, hbr⟩ := hrel
  have zr := hbr.out.size
  have hlen := listK_len s k
  by_cases hlt : k < 7
  ·have K1 : Hid (∀ w, Calls Tryz.prog 90 #[.int .i64 s, .int .i64 k] w fun e w' => e = .returned (.bool (s.testBit k)) ∧ w = w') := fun w => (has_any s k w (by omega) (by omega) (by omega) (by omega)).mono fun _ _ ⟨h1, h2⟩ => ⟨by rw [h1, Int.toNat_natCast, Int.toNat_natCast], h2⟩
   cases ht : s.testBit k
   ·have HL := Lib.hid (listK_no ht)
    rw [ht] at K1
    clear ht
    go_wp2_with (first | (go_at_call 90; with_reducible refine (K1.out _).mono ?_; rintro e w' ⟨rfl, rfl⟩))
    go_roundw
    case rel => exact ⟨k + 1, A', c', by omega, by go_num, by rw [HL.out], by rw [HL.out]; exact hO, hbr⟩
    case measure => simp [intOf]; omega
   ·have HL := Lib.hid (listK_yes ht)
    rw [ht] at K1
    clear ht
    go_wp2_with (first | (go_at_call 90; with_reducible refine (K1.out _).mono ?_; rintro e w' ⟨rfl, rfl⟩) | (at_builtin; (refine wpList_pushN wr rfl _ _ rfl w.heap.size wr.heap.size A' c' (listK s k) hO.out zr k rfl 1 wr.heap.size rfl rfl (by omega) ?_; intro g cap w3 hO2 hb2)))
    have H4 := Lib.hid hO2
    have H5 : Hid (Below w.heap.size w w3) := hbr.out.trans hb2
    clear hO2 hb2 hbr hO
    go_roundw
    case rel => exact ⟨k + 1, _, _, by omega, by go_num, by rw [HL.out, List.length_append]; rfl, by rw [HL.out, List.length_append]; exact H4.out, H5⟩
    case measure => simp [intOf]; omega
  ·have hk7 : k = 7 := by omega
   have HN : Hid (listK s k = listN s) := by show _ = _; rw [hk7]; rfl
   have i1 : (7 : Int) ≤ (k : Int) := by omega
   clear hk7
   go_wp2
   go_ret
   exact ⟨A', c', by rw [← HN.out]; rfl, by rw [← HN.out]; exact hO.out, hbr.out⟩
theorem l3Fine_yes (s : Int) (w : World) (h0 : 0 ≤ s) (h1 : s ≤ 127) : Calls Tryz.prog 309 #[.int .i64 s] w fun e w' => e = .returned (.bool true) ∧ w = w' := by
 go_enter Tryz.func309, Tryz.ntmps309
 go_wp2_with (first | (go_at_call 191; refine (l1In_yes _ _ _ _ (by omega) (by omega)).mono ?_; rintro e w' ⟨rfl, rfl⟩))
 go_ret
 exact ⟨rfl, rfl⟩
set_option maxHeartbeats 1000000 in
theorem ListOf_s (s : Nat) (hs : s < 128) (w : World) :
 Calls Tryz.prog 187 #[.int .i64 s] w fun e w' => ∃ A c, e = .returned (.slice A (listN s).length c) ∧ Own w' w.heap.size w'.heap.size 3 1 A (listN s).length c (ni (listN s)) ∧ Below w.heap.size w w' := by
 obtain ⟨W, hW⟩ : ∃ W : World, W = w.alloc (Obj.cells #[] 3) := ⟨_, rfl⟩
 have HB : Hid (Below w.heap.size w W) := by rw [hW]; exact (Below.refl _ _).alloc (Nat.le_refl _) _
 have hz1 : w.heap.size < W.heap.size := by rw [hW]; simp
 have HO : Hid (Own W w.heap.size W.heap.size 3 1 (some ⟨w.heap.size, 0, none⟩) 0 0 (ni [])) := by
  refine .inr ⟨w.heap.size, #[], rfl, Nat.le_refl _, hz1, ?_, Nat.le_refl _, by unfold maxLen; omega, rfl, fun j hj => absurd hj (by omega)⟩
  rw [hW]
  exact heap_alloc_new w _
 have HW := Lib.hid hW
 clear hW
 go_enter Tryz.func187, Tryz.ntmps187
 go_wp2
 rw [← HW.out]
 clear HW
 go_loopw [3, 4] (fun l i wr => ∃ (k : Nat) (A' : Option Addr) (c' : Nat), k ≤ 7 ∧ i = .int .i64 k ∧ l = .slice A' (listK s k).length c' ∧ Hid (Own wr w.heap.size wr.heap.size 3 1 A' (listK s k).length c' (ni (listK s k))) ∧ Hid (Below w.heap.size w wr)) (fun _ i _ => 7 - (intOf i).toNat)
 case atStart => exact ⟨0, _, 0, Nat.zero_le _, rfl, rfl, HO, HB⟩
 case round =>
  obtain ⟨k, A', c', hk, rfl, rfl, hO, hbr⟩ := hrel
  have zr := hbr.out.size
  have hlen := listK_len s k
  by_cases hlt : k < 7
  ·have E := and_one_i64 (s : Int) k (by omega) (by omega)
   rw [Int.toNat_natCast] at E
   cases ht : s.testBit k
   ·have HL := Lib.hid (listK_no ht)
    rw [ht] at E
    clear ht
    go_wp2_with (first | (go_at_call 309; refine (l3Fine_yes _ _ (by omega) (by omega)).mono ?_; rintro e w' ⟨rfl, rfl⟩))
    go_roundw
    case rel => exact ⟨k + 1, A', c', by omega, by go_num, by rw [HL.out], by rw [HL.out]; exact hO, hbr⟩
    case measure => simp [intOf]; omega
   ·have HL := Lib.hid (listK_yes ht)
    rw [ht] at E
    clear ht
    go_wp2_with (first | (go_at_call 309; refine (l3Fine_yes _ _ (by omega) (by omega)).mono ?_; rintro e w' ⟨rfl, rfl⟩) | (at_builtin; (refine wpList_pushN wr rfl _ _ rfl w.heap.size wr.heap.size A' c' (listK s k) hO.out zr k rfl 1 wr.heap.size rfl rfl (by omega) ?_; intro g cap w3 hO2 hb2)))
    have H4 := Lib.hid hO2
    have H5 : Hid (Below w.heap.size w w3) := hbr.out.trans hb2
    clear hO2 hb2 hbr hO
    go_roundw
    case rel => exact ⟨k + 1, _, _, by omega, by go_num, by rw [HL.out, List.length_append]; rfl, by rw [HL.out, List.length_append]; exact H4.out, H5⟩
    case measure => simp [intOf]; omega
  ·have hk7 : k = 7 := by omega
   have HN : Hid (listK s k = listN s) := by show _ = _; rw [hk7]; rfl
   have i1 : (7 : Int) ≤ (k : Int) := by omega
   clear hk7
   go_wp2
   go_ret
   exact ⟨A', c', by rw [← HN.out]; rfl, by rw [← HN.out]; exact hO.out, hbr.out⟩
end Go.Proofs.YtdpkbfiggbcclaaGreat
/-
 Contracts: is a set a clique? The program's test; the closure that looks for a simplicial vertex; the search for the first.
-/
namespace Go.Proofs.YtdpkbfiggbcclaaGreat
open Go.RowKit
def rw_ (x : Nat → Int) : Nat → Nat := fun v => (x v).toNat
theorem okB_vg {m : Nat} {x : Nat → Int} (h : okB m m x = true) : VG m (rw_ x) ∧ ∀ v, v < m → x v = (rw_ x v : Int) := by
 have hok : OkG m m x := by
  refine Classical.byContradiction fun h2 => ?_
  rw [okB_no h2] at h; cases h
 obtain ⟨r, _, vg, hx⟩ := hok
 exact ⟨vg.congr fun v hv => by show r v = (x v).toNat; rw [hx v hv]; simp, fun v hv => by show x v = ((x v).toNat : Int); rw [hx v hv]; simp⟩
set_option maxHeartbeats 1000000 in
theorem isClique_i (m : Nat) (A : Option Addr) (c : Nat) (x : Nat → Int) (s : Nat) (w : World) (B : Nat) (h : Rd w B A m c x) (hB : B ≤ w.heap.size) (hok : okB m m x = true) (hs : s < 2 ^ m) :
 Calls Tryz.prog 264 #[.agg #[.int .i64 m, .slice A m c], .int .i64 s] w fun e w' => e = .returned (.bool (cliq (rw_ x) s)) ∧ Below w.heap.size w w' := by
 obtain ⟨vg, hx⟩ := okB_vg hok
 have hn1 := vg.n1
 have hn7 := vg.n7
 have h128 := two_pow_le hn7
 obtain ⟨W, hW⟩ : ∃ W : World, W = (w.alloc (Obj.cells #[Value.int IntKind.i64 m, Value.slice A m c] 28)) := ⟨_, rfl⟩
 have HB : Hid (Below w.heap.size w W) := by rw [hW]; exact ((Below.refl _ _).alloc (Nat.le_refl _) _)
 have a0 : w.heap.size < W.heap.size := by rw [hW]; simp
 have e1 : W.cell? ⟨w.heap.size, 1, none⟩ = some (.slice A m c) := by rw [hW]; simp [go_sem]
 obtain ⟨b, o, rfl, hb, hc⟩ := (h.keep (HB.out.mono hB) (Nat.le_refl _)).pos (by omega)
 have HC := Lib.hid hc
 have HW := Lib.hid hW
 have HX := Lib.hid hx
 have HV := Lib.hid vg
 clear hW h hc hx vg hok
 go_enter Tryz.func264, Tryz.ntmps264
 go_wp2_with fail
 rw [← HW.out]
 clear HW
 refine (ListOf_i s (by omega) W).mono ?_
 rintro e w1 ⟨A', c', rfl, hO, hb1⟩
 have z1 := hb1.size
 have f1 := up hb1 e1 a0
 have HO := Lib.hid hO
 have HB1 : Hid (Below w.heap.size w w1) := HB.out.trans (hb1.mono (by omega))
 have HC1 : Hid (∀ v, v < m → w1.cell? ⟨b, o + v, none⟩ = some (.int .i64 (x v))) := fun v hv => (hb1.cell (p := ⟨b, o + v, none⟩) (by show b < _; omega)).trans (HC.out v hv)
 have hl7 := listN_len s
 have a1 : w.heap.size < w1.heap.size := by omega
 clear hO hb1 e1 HC HB
 go_wp2
 go_loopw [10] (fun i wr => ∃ k : Nat, k ≤ (listN s).length ∧ i = .int .i64 k ∧ Hid (∀ j (hj : j < (listN s).length), j < k → s ^^^ (s &&& rw_ x (listN s)[j]) = 2 ^ (listN s)[j]) ∧ Hid (Below w1.heap.size w1 wr)) (fun i _ => (listN s).length - (intOf i).toNat)
 case atStart => exact ⟨0, Nat.zero_le _, rfl, (fun j hj hk => absurd hk (by omega)), Below.refl _ _⟩
 case round =>
  obtain ⟨k, hk, rfl, hall, hbr⟩ := hrel
  have zr := hbr.out.size
  by_cases hlt : k < (listN s).length
  ·obtain ⟨hv7, hvb⟩ := listN_at hlt
   have hvm := bit_lt hs hvb
   obtain ⟨v, hv⟩ : ∃ v, v = (listN s)[k] := ⟨_, rfl⟩
   rw [← hv] at hv7 hvb hvm
   obtain ⟨g, hA, hg1, hg2, _, hcell, _⟩ := HO.out.at_ (by omega)
   have q0 : wr.cell? ⟨g, k, none⟩ = some (.int .i64 v) := (hbr.out.cell (p := ⟨g, k, none⟩) (by show g < _; omega)).trans ((hcell k (by omega)).trans (by rw [ni_at hlt, ← hv]))
   have q1 := up hbr.out f1 a1
   have q2 := (hbr.out.cell (p := ⟨b, o + v, none⟩) (by show b < _; omega)).trans (HC1.out v hvm)
   have hxv := HX.out v hvm
   have hr128 := HV.out.lt128 hvm
   have E := i64_andNot (s : Int) (x v) (by omega) (by omega) (by omega) (by omega)
   rw [Int.toNat_natCast] at E
   have p1 := pow_shl v (by omega)
   have i1 : (k : Int) < ((listN s).length : Int) := by omega
   have i2 : (v : Int) < (m : Int) := by omega
   have Hv := Lib.hid hv
   subst hA
   by_cases hq : s ^^^ (s &&& (x v).toNat) = 2 ^ v
   ·have hne : (bits BinOp.andNot .i64 (s : Int) (x v) != 2 ^ v) = false := by rw [E, hq]; simp
    have Hq : Hid (s ^^^ (s &&& rw_ x (listN s)[k]) = 2 ^ (listN s)[k]) := by show _ = _; rw [← Hv.out]; exact hq
    clear E hq hv hcell hxv hvb
    go_wp2
    go_quiet (fail)
    go_wp2
    go_roundw
    case rel =>
     refine ⟨k + 1, by omega, by go_num, fun j hj hk => ?_, below_drewN hbr.out _⟩
     by_cases hjk : j < k
     ·exact hall.out j hj hjk
     ·have : j = k := by omega
      subst this
      exact Hq.out
    case measure => simp [intOf]; omega
   ·have hne : (bits BinOp.andNot .i64 (s : Int) (x v) != 2 ^ v) = true := by
     rw [E, bne_iff_ne]
     intro e
     apply hq
     have e2 : ((2 ^ v : Nat) : Int) = 2 ^ v := by simp
     rw [← e2] at e
     omega
    have hno : Hid (cliq (rw_ x) s = false) := cliq_no hv7 hvb hq
    clear E hq hv hcell hxv hvb
    go_wp2
    go_quiet (fail)
    go_wp2
    go_ret
    exact ⟨ret_bool hno.out.symm, HB1.out.trans ((below_drewN hbr.out _).mono (by omega))⟩
  ·have hyes : Hid (cliq (rw_ x) s = true) := by
    refine cliq_yes fun v hv hb => ?_
    obtain ⟨j, hj, rfl⟩ := List.mem_iff_getElem.1 (mem_listN.2 ⟨hv, hb⟩)
    exact hall.out j hj (by omega)
   have i1 : ((listN s).length : Int) ≤ (k : Int) := by omega
   go_wp2
   go_ret
   exact ⟨ret_bool hyes.out.symm, HB1.out.trans (hbr.out.mono (by omega))⟩
set_option maxHeartbeats 1000000 in
theorem simp_i (m : Nat) (A : Option Addr) (c : Nat) (x : Nat → Int) (left v bg bl : Nat) (w : World) (B : Nat) (h : Rd w B A m c x) (hB : B ≤ w.heap.size) (hok : okB m m x = true) (hs : left < 2 ^ m) (hv : v < m)
 (g0 : w.cell? ⟨bg, 0, none⟩ = some (.int .i64 m)) (g1 : w.cell? ⟨bg, 1, none⟩ = some (.slice A m c)) (l0 : w.cell? ⟨bl, 0, none⟩ = some (.int .i64 left)) :
 Calls Tryz.prog 354 #[.int .i64 v, .pointer (some ⟨bg, 0, none⟩), .pointer (some ⟨bl, 0, none⟩)] w fun e w' => e = .returned (.bool (cliq (rw_ x) (rw_ x v &&& left))) ∧ Below w.heap.size w w' := by
 obtain ⟨vg, hx⟩ := okB_vg hok
 have hn7 := vg.n7
 have h128 := two_pow_le hn7
 have hr128 := vg.lt128 hv
 obtain ⟨b, o, rfl, hb, hc⟩ := h.pos (by omega)
 have q0 := hc v hv
 rw [hx v hv] at q0
 have E := i64_and_nat (rw_ x v) left (by omega) (by omega)
 have hlt : rw_ x v &&& left < 2 ^ m := Nat.lt_of_le_of_lt Nat.and_le_right hs
 have i1 : (v : Int) < (m : Int) := by omega
 have Hok := Lib.hid hok
 have HR : Hid (Rd w.drew B (some ⟨b, o, none⟩) m c x) := h
 have HBd : Hid (B ≤ w.drew.heap.size) := hB
 clear hx vg hc hok h
 go_enter Tryz.func354, Tryz.ntmps354
 go_wp2_with fail
 go_region_held3 (fun z => z.cell? ⟨bg, 0, none⟩ = some (.int .i64 m) ∧ z.cell? ⟨bg, 1, none⟩ = some (.slice (some ⟨b, o, none⟩) m c) ∧ z.cell? ⟨bl, 0, none⟩ = some (.int .i64 left) ∧ z.cell? ⟨b, o + v, none⟩ = some (.int .i64 (rw_ x v : Int)))
  (first | (refine ⟨?_, ?_, ?_, ?_⟩ <;> assumption) | exact ⟨up hb3 g0 (World.block_lt_of_cell? _ _ g0), up hb3 g1 (World.block_lt_of_cell? _ _ g1), up hb3 l0 (World.block_lt_of_cell? _ _ l0), up hb3 q0 (World.block_lt_of_cell? _ _ q0)⟩ | fail)
  (first | (go_at_call 264; ((with_reducible refine (isClique_i m (some ⟨b, o, none⟩) c x (rw_ x v &&& left) _ _ HR.out HBd.out Hok.out hlt).mono ?_); rintro e w3 ⟨rfl, hb3⟩)))
 have HB : Hid (Below w.heap.size w w3) := ⟨hb3.os, hb3.tape, hb3.output, hb3.size, hb3.block⟩
 clear hb3
 go_wp2
 go_ret
 exact ⟨rfl, HB.out⟩
end Go.Proofs.YtdpkbfiggbcclaaGreat
/-
 Contracts: is a set a clique? The reference's tests; is a vertex simplicial?
-/
namespace Go.Proofs.YtdpkbfiggbcclaaGreat
open Go.RowKit
set_option maxHeartbeats 1000000 in
theorem IsSet_yes (m : Nat) (A : Option Addr) (c : Nat) (x : Nat → Int) (s : Nat) (w : World) (B : Nat) (h : Rd w B A m c x) (hB : B ≤ w.heap.size) (hm : m ≤ 7) (hok : okB m m x = true) (hs : s < 2 ^ m) :
 Calls Tryz.prog 186 #[.agg #[.int .i64 m, .slice A m c], .int .i64 s] w fun e w' => e = .returned (.bool true) ∧ Below w.heap.size w w' := by
 obtain ⟨W, hW⟩ : ∃ W : World, W = (w.alloc (Obj.cells #[Value.int IntKind.i64 m, Value.slice A m c] 28)) := ⟨_, rfl⟩
 have HB : Hid (Below w.heap.size w W) := by rw [hW]; exact ((Below.refl _ _).alloc (Nat.le_refl _) _)
 have a0 : w.heap.size < W.heap.size := by rw [hW]; simp
 have e0 : W.cell? ⟨w.heap.size, 0, none⟩ = some (.int .i64 m) := by rw [hW]; simp [go_sem]
 have e1 : W.cell? ⟨w.heap.size, 1, none⟩ = some (.slice A m c) := by rw [hW]; simp [go_sem]
 have HK := Lib.hid (h.keep (HB.out.mono hB) (Nat.le_refl _))
 have HW := Lib.hid hW
 have Hok := Lib.hid hok
 have p1 := pow_shl m (by omega)
 have p2 : ((2 ^ m : Nat) : Int) = 2 ^ m := by simp
 have p3 : (s : Int) < 2 ^ m := by omega
 have p4 : (0 : Int) ≤ (s : Int) := by omega
 clear hW h hok p2
 go_enter Tryz.func186, Tryz.ntmps186
 go_wp2_with fail
 rw [← HW.out]
 refine (IsGraph_sany m A m c x W B HK.out (by omega) (by omega)).mono ?_
 rintro e w1 ⟨rfl, hb1⟩
 rw [Hok.out]
 have f0 := up hb1 e0 a0
 have f1 := up hb1 e1 a0
 have HB1 : Hid (Below w.heap.size w w1) := HB.out.trans (hb1.mono (by omega))
 clear hb1 e0 e1 HW HK HB
 go_wp2
 go_ret
 exact ⟨rfl, HB1.out⟩
set_option maxHeartbeats 1000000 in
theorem IsClique_s (m : Nat) (A : Option Addr) (c : Nat) (x : Nat → Int) (s : Nat) (w : World) (B : Nat) (h : Rd w B A m c x) (hB : B ≤ w.heap.size) (hok : okB m m x = true) (hs : s < 2 ^ m) :
 Calls Tryz.prog 120 #[.agg #[.int .i64 m, .slice A m c], .int .i64 s] w fun e w' => e = .returned (.bool (cliq (rw_ x) s)) ∧ Below w.heap.size w w' := by
 obtain ⟨vg, hx⟩ := okB_vg hok
 have hn1 := vg.n1
 have hn7 := vg.n7
 have h128 := two_pow_le hn7
 obtain ⟨W, hW⟩ : ∃ W : World, W = (w.alloc (Obj.cells #[Value.int IntKind.i64 m, Value.slice A m c] 28)) := ⟨_, rfl⟩
 have HB : Hid (Below w.heap.size w W) := by rw [hW]; exact ((Below.refl _ _).alloc (Nat.le_refl _) _)
 have a0 : w.heap.size < W.heap.size := by rw [hW]; simp
 have e0 : W.cell? ⟨w.heap.size, 0, none⟩ = some (.int .i64 m) := by rw [hW]; simp [go_sem]
 have e1 : W.cell? ⟨w.heap.size, 1, none⟩ = some (.slice A m c) := by rw [hW]; simp [go_sem]
 have HK := Lib.hid (h.keep (HB.out.mono hB) (Nat.le_refl _))
 obtain ⟨b, o, rfl, hb, hc⟩ := HK.out.pos (by omega)
 have HC := Lib.hid hc
 have HW := Lib.hid hW
 have HX := Lib.hid hx
 have HV := Lib.hid vg
 have Hok := Lib.hid hok
 clear hW h hc hx vg hok
 go_enter Tryz.func120, Tryz.ntmps120
 go_wp2_with fail
 rw [← HW.out]
 clear HW
 refine (IsSet_yes m (some ⟨b, o, none⟩) c x s W B HK.out (by omega) hn7 Hok.out hs).mono ?_
 rintro e w1 ⟨rfl, hb1⟩
 have z1 := hb1.size
 have f0 := up hb1 e0 a0
 have f1 := up hb1 e1 a0
 have HB1 : Hid (Below w.heap.size w w1) := HB.out.trans (hb1.mono (by omega))
 have HC1 : Hid (∀ v, v < m → w1.cell? ⟨b, o + v, none⟩ = some (.int .i64 (x v))) := fun v hv => (hb1.cell (p := ⟨b, o + v, none⟩) (by show b < _; omega)).trans (HC.out v hv)
 have a1 : w.heap.size < w1.heap.size := by omega
 clear hb1 e0 e1 HC HB HK
 go_wp2
 go_loopw [5] (fun i wr => ∃ k : Nat, k ≤ m ∧ i = .int .i64 k ∧ Hid (∀ v, v < k → s.testBit v = true → s ^^^ (s &&& rw_ x v) = 2 ^ v) ∧ Hid (Below w1.heap.size w1 wr)) (fun i _ => m - (intOf i).toNat)
 case atStart => exact ⟨0, Nat.zero_le _, rfl, (fun v hv => absurd hv (by omega)), Below.refl _ _⟩
 case round =>
  obtain ⟨v, hk, rfl, hall, hbr⟩ := hrel
  have zr := hbr.out.size
  have q3 := up hbr.out f0 a1
  by_cases hlt : v < m
  ·have q1 := up hbr.out f1 a1
   have q2 := (hbr.out.cell (p := ⟨b, o + v, none⟩) (by show b < _; omega)).trans (HC1.out v hlt)
   have hxv := HX.out v hlt
   rw [hxv] at q2
   have hr128 := HV.out.lt128 hlt
   have E := i64_and_nat (rw_ x v) s (by omega) (by omega)
   have E1 := and_one_i64 (s : Int) v (by omega) (by omega)
   rw [Int.toNat_natCast] at E1
   have p1 := pow_shl v (by omega)
   have i2 : (v : Int) < (m : Int) := by omega
   cases ht : s.testBit v
   ·rw [ht] at E1
    have Ht := Lib.hid ht
    clear E hxv ht
    go_wp2
    go_quiet (fail)
    go_wp2
    refine ⟨⟨v + 1, by omega, by go_num, fun j hj hb => ?_, below_drewN hbr.out _⟩, by simp [intOf]; omega⟩
    by_cases hjv : j < v
    ·exact hall.out j hjv hb
    ·obtain rfl : j = v := by omega
     rw [Ht.out] at hb; cases hb
   ·rw [ht] at E1
    have Ht := Lib.hid ht
    have hge := bit_ge ht
    have p2 : ((2 ^ v : Nat) : Int) = 2 ^ v := by simp
    have E2 : ((s : Int) - 2 ^ v) = ((s - 2 ^ v : Nat) : Int) := by rw [Int.ofNat_sub hge]; simp
    have E3 : wrap64 ((s : Int) - 2 ^ v) = ((s - 2 ^ v : Nat) : Int) := by
     obtain ⟨d, hd⟩ : ∃ d, d = s - 2 ^ v := ⟨_, rfl⟩
     have hd2 : d ≤ s := by rw [hd]; exact Nat.sub_le _ _
     rw [E2, ← hd]
     exact Go.IntWalk.wrap64_in (d : Int) (by clear hd E2; omega)
    by_cases hq : s ^^^ (s &&& rw_ x v) = 2 ^ v
    ·have hc := (clash (r := rw_ x) (by omega : s < 128) ht).2 hq
     have hne : (bits BinOp.and .i64 (rw_ x v : Int) (s : Int) != wrap64 ((s : Int) - 2 ^ v)) = false := by rw [E, E3, hc]; simp
     have Hq := Lib.hid hq
     clear E hq hxv ht hc p2 E2 E3
     go_wp2
     go_quiet (fail)
     go_wp2
     refine ⟨⟨v + 1, by omega, by go_num, fun j hj hb => ?_, below_drewN hbr.out _⟩, by simp [intOf]; omega⟩
     by_cases hjv : j < v
     ·exact hall.out j hjv hb
     ·obtain rfl : j = v := by omega
      exact Hq.out
    ·have hno : Hid (cliq (rw_ x) s = false) := cliq_no (by omega) ht hq
     have hne : (bits BinOp.and .i64 (rw_ x v : Int) (s : Int) != wrap64 ((s : Int) - 2 ^ v)) = true := by
      rw [E, E3, bne_iff_ne]
      intro e
      exact hq ((clash (r := rw_ x) (by omega : s < 128) ht).1 (by omega))
     clear E hq hxv ht p2 E2 E3
     go_wp2
     go_quiet (fail)
     go_wp2
     go_ret
     exact ⟨ret_bool hno.out.symm, HB1.out.trans ((below_drewN hbr.out _).mono (by omega))⟩
  ·have hyes : Hid (cliq (rw_ x) s = true) := cliq_yes fun v hv hb => hall.out v (by have := bit_lt hs hb; omega) hb
   have i1 : (m : Int) ≤ (v : Int) := by omega
   go_wp2
   go_ret
   exact ⟨ret_bool hyes.out.symm, HB1.out.trans (hbr.out.mono (by omega))⟩
set_option maxHeartbeats 1000000 in
theorem l6Simplicial_any (m : Nat) (A : Option Addr) (c : Nat) (x : Nat → Int) (v left : Nat) (w : World) (B : Nat) (h : Rd w B A m c x) (hB : B ≤ w.heap.size) (hok : okB m m x = true) (hs : left < 2 ^ m) (hv : v < m) :
 Calls Tryz.prog 306 #[.agg #[.int .i64 m, .slice A m c], .int .i64 v, .int .i64 left] w fun e w' => e = .returned (.bool (cliq (rw_ x) (rw_ x v &&& left))) ∧ Below w.heap.size w w' := by
 obtain ⟨vg, hx⟩ := okB_vg hok
 have hn7 := vg.n7
 have h128 := two_pow_le hn7
 have hr128 := vg.lt128 hv
 obtain ⟨W, hW⟩ : ∃ W : World, W = (w.alloc (Obj.cells #[Value.int IntKind.i64 m, Value.slice A m c] 28)) := ⟨_, rfl⟩
 have HB : Hid (Below w.heap.size w W) := by rw [hW]; exact ((Below.refl _ _).alloc (Nat.le_refl _) _)
 have a0 : w.heap.size < W.heap.size := by rw [hW]; simp
 have e0 : W.cell? ⟨w.heap.size, 0, none⟩ = some (.int .i64 m) := by rw [hW]; simp [go_sem]
 have e1 : W.cell? ⟨w.heap.size, 1, none⟩ = some (.slice A m c) := by rw [hW]; simp [go_sem]
 have hk := h.keep (HB.out.mono hB) (Nat.le_refl _)
 obtain ⟨b, o, rfl, hb, hc⟩ := hk.pos (by omega)
 have q0 := hc v hv
 rw [hx v hv] at q0
 have E := i64_and_nat (rw_ x v) left (by omega) (by omega)
 have hlt : rw_ x v &&& left < 2 ^ m := Nat.lt_of_le_of_lt Nat.and_le_right hs
 have i1 : (v : Int) < (m : Int) := by omega
 have Hok := Lib.hid hok
 have HR : Hid (Rd W.drew B (some ⟨b, o, none⟩) m c x) := hk
 have HBd : Hid (B ≤ W.drew.heap.size) := by show B ≤ W.heap.size; omega
 have HW := Lib.hid hW
 clear hx vg hc hok h hW hk
 go_enter Tryz.func306, Tryz.ntmps306
 go_wp2_with fail
 rw [← HW.out]
 clear HW
 go_region_held3 (fun z => z.cell? ⟨w.heap.size, 0, none⟩ = some (.int .i64 m) ∧ z.cell? ⟨w.heap.size, 1, none⟩ = some (.slice (some ⟨b, o, none⟩) m c) ∧ z.cell? ⟨b, o + v, none⟩ = some (.int .i64 (rw_ x v : Int)))
  (first | (refine ⟨?_, ?_, ?_⟩ <;> assumption) | exact ⟨up hb3 e0 (World.block_lt_of_cell? _ _ e0), up hb3 e1 (World.block_lt_of_cell? _ _ e1), up hb3 q0 (World.block_lt_of_cell? _ _ q0)⟩ | fail)
  (first | (go_at_call 120; ((with_reducible refine (IsClique_s m (some ⟨b, o, none⟩) c x (rw_ x v &&& left) _ _ HR.out HBd.out Hok.out hlt).mono ?_); rintro e w3 ⟨rfl, hb3⟩)))
 have HB2 : Hid (Below w.heap.size w w3) := HB.out.trans (Below.mono (⟨hb3.os, hb3.tape, hb3.output, hb3.size, hb3.block⟩ : Below W.heap.size W w3) (by omega))
 clear hb3
 go_wp2
 go_ret
 exact ⟨rfl, HB2.out⟩
end Go.Proofs.YtdpkbfiggbcclaaGreat
