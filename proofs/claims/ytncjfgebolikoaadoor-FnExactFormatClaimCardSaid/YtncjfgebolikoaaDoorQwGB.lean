/-
  Several texts in one: words for memory, plain laws and contracts that the later texts lean on.
-/
import Derived.Test.YtncjfgebolikoaaDoorRows
import Derived.Test.YtncjfgebolikoaaDoorQwGA
import Derived.Deep.RegionHeld3
import Derived.Deep.QuietTactic
import Derived.BigQuiet
/-
  Words for memory: a slice of slices of integers that the call owns, or that it only reads.
-/
namespace Go.Proofs.YtncjfgebolikoaaDoor
open Go.RowKit

/-- One inner slice: its address, its capacity, what it holds. -/
abbrev Dsc := Option Addr × Nat × List Int
def dv (d : Dsc) : Value := .slice d.1 d.2.2.length d.2.1
def dvs (D : List Dsc) : Nat → Value := fun j => dv (D.getD j (none, 0, []))
def ii (l : List Int) : Nat → Value := fun i => .int .i64 (l.getD i 0)
def lists (D : List Dsc) : List (List Int) := D.map (·.2.2)
/-- No two inner slices lie at one place. -/
def Apart (D : List Dsc) : Prop := D.Pairwise fun d e => ∀ a, d.1 = some a → e.1 ≠ some a
def OwnD (w : World) (lo hi : Nat) (A : Option Addr) (c : Nat) (D : List Dsc) : Prop :=
  Own w lo hi 29 1 A D.length c (dvs D) ∧ (∀ d ∈ D, Own w lo hi 3 1 d.1 d.2.2.length d.2.1 (ii d.2.2)) ∧ Apart D
def RdD (w : World) (B : Nat) (A : Option Addr) (c : Nat) (D : List Dsc) : Prop :=
  RdV w B A D.length c (dvs D) ∧ ∀ d ∈ D, Rd w B d.1 d.2.2.length d.2.1 (fun i => d.2.2.getD i 0)

theorem info_ints : (Tryd.prog.info? 29).map (fun i => (i.zero, i.size, i.bytes)) = some (some (.slice none 0 0), 1, 24) := by kernel_rfl

section
variable {w w' : World} {lo hi lo' hi' B B' c : Nat} {A : Option Addr} {D : List Dsc}
theorem OwnD.mono (h : OwnD w lo hi A c D) (h1 : lo' ≤ lo) (h2 : hi ≤ hi') : OwnD w lo' hi' A c D := ⟨h.1.mono h1 h2, fun d hd => (h.2.1 d hd).mono h1 h2, h.2.2⟩
theorem OwnD.keep {a b : Nat} (h : OwnD w lo hi A c D) (hf : Fr a b w w') (hab : hi ≤ a ∨ b ≤ lo) : OwnD w' lo hi A c D := ⟨h.1.keep hf hab, fun d hd => (h.2.1 d hd).keep hf hab, h.2.2⟩
theorem OwnD.keepB (h : OwnD w lo hi A c D) (hf : Below B w w') (hB : hi ≤ B) : OwnD w' lo hi A c D := ⟨h.1.keepB hf hB, fun d hd => (h.2.1 d hd).keepB hf hB, h.2.2⟩
theorem OwnD.alloc (h : OwnD w lo hi A c D) (o : Obj) : OwnD (w.alloc o) lo hi A c D := ⟨h.1.alloc o, fun d hd => (h.2.1 d hd).alloc o, h.2.2⟩
theorem OwnD.drew (h : OwnD w lo hi A c D) : OwnD w.drew lo hi A c D := h
theorem OwnD.rdD (h : OwnD w lo hi A c D) : RdD w hi A c D := ⟨h.1.rdV, fun d hd => (h.2.1 d hd).rd⟩
theorem RdD.keep (h : RdD w B A c D) (hb : Below B w w') (hB : B ≤ B') : RdD w' B' A c D := ⟨h.1.keep hb hB, fun d hd => (h.2 d hd).keep hb hB⟩
theorem OwnD.none_ (w : World) (lo hi : Nat) (g : Nat) (h1 : lo ≤ g) (h2 : g < hi) (hg : w.heap[g]? = some (.cells #[] 29 (0, 0))) : OwnD w lo hi (some ⟨g, 0, none⟩) 0 [] :=
  ⟨.inr ⟨g, #[], rfl, h1, h2, hg, Nat.le_refl _, by unfold maxLen; omega, rfl, fun j hj => absurd hj (by simp)⟩, (fun d hd => by cases hd), List.Pairwise.nil⟩
theorem Own.only {e : TypeId} {size n : Nat} {x : Nat → Value} (h : Own w lo hi e size A n c x) (hn : 0 < n) : ∃ g, A = some ⟨g, 0, none⟩ ∧ lo ≤ g ∧ g < hi ∧ Own w g (g + 1) e size A n c x := by
  rcases h with h | ⟨g, cur, k1, k2, k3, r⟩
  · omega
  · exact ⟨g, k1, k2, k3, .inr ⟨g, cur, k1, Nat.le_refl _, Nat.lt_succ_self _, r⟩⟩
/-- Rows of different element types are different blocks. -/
theorem Own.types {e e' : TypeId} {s1 s2 n1 n2 c1 c2 lo1 hi1 lo2 hi2 : Nat} {A1 A2 : Option Addr} {x y : Nat → Value} (h : Own w lo1 hi1 e s1 A1 n1 c1 x) (k : Own w lo2 hi2 e' s2 A2 n2 c2 y) (hne : e ≠ e') {g : Nat} (h1 : A1 = some ⟨g, 0, none⟩) : A2 ≠ some ⟨g, 0, none⟩ := by
  rintro rfl
  subst h1
  rcases h with ⟨h, _⟩ | ⟨g1, cur1, k1, _, _, r1, _⟩
  · cases h
  rcases k with ⟨h, _⟩ | ⟨g2, cur2, k2, _, _, r2, _⟩
  · cases h
  simp only [Option.some.injEq, Addr.mk.injEq, and_true] at k1 k2
  subst k1 k2
  rw [r1] at r2
  simp only [Option.some.injEq, Obj.cells.injEq] at r2
  exact hne r2.2.1
theorem Own.at_block {e : TypeId} {size n : Nat} {x : Nat → Value} (h : Own w lo hi e size A n c x) : A = none ∨ ∃ g, A = some ⟨g, 0, none⟩ ∧ lo ≤ g ∧ g < hi := by
  rcases h with ⟨h, _⟩ | ⟨g, cur, k1, k2, k3, _⟩
  · exact .inl h
  · exact .inr ⟨g, k1, k2, k3⟩
theorem getD_append_left {D : List Dsc} {d : Dsc} {j : Nat} (h : j < D.length) : (D ++ [d]).getD j (none, 0, []) = D.getD j (none, 0, []) := by
  simp [List.getD, List.getElem?_append_left h]
theorem dvs_left {D : List Dsc} {d : Dsc} {j : Nat} (h : j < D.length) : dvs (D ++ [d]) j = dvs D j := by unfold dvs; rw [getD_append_left h]
theorem dvs_last {D : List Dsc} {d : Dsc} : dvs (D ++ [d]) D.length = dv d := by unfold dvs; simp [List.getD]
theorem dvs_at {D : List Dsc} {j : Nat} (h : j < D.length) : ∃ d, D[j]? = some d ∧ d ∈ D ∧ dvs D j = dv d := by
  refine ⟨D[j], List.getElem?_eq_getElem h, List.getElem_mem h, ?_⟩
  unfold dvs
  simp [List.getD, List.getElem?_eq_getElem h]
/-- One inner slice more. -/
theorem OwnD.push {D : List Dsc} {d : Dsc} {w w1 : World} {A : Option Addr} {c g cap : Nat} (h : ∀ d ∈ D, Own w lo hi 3 1 d.1 d.2.2.length d.2.1 (ii d.2.2)) (ha : Apart D) (hd : Own w lo hi 3 1 d.1 d.2.2.length d.2.1 (ii d.2.2)) (hnew : ∀ e ∈ D, ∀ a, e.1 = some a → d.1 ≠ some a)
    (hp : Pushed w w1 lo 29 1 A D.length c (dvs (D ++ [d])) g cap) (hown : Own w lo hi 29 1 A D.length c (dvs D)) (hhi : hi ≤ w.heap.size) :
    OwnD w1 lo w1.heap.size (some ⟨g, 0, none⟩) cap (D ++ [d]) := by
  have hs := hp.grown.size
  have keep : ∀ e : Dsc, Own w lo hi 3 1 e.1 e.2.2.length e.2.1 (ii e.2.2) → Own w1 lo w1.heap.size 3 1 e.1 e.2.2.length e.2.1 (ii e.2.2) := by
    intro e he
    have hne : ∀ g', e.1 = some ⟨g', 0, none⟩ → A ≠ some ⟨g', 0, none⟩ := fun g' hg' => he.types hown (by decide) hg'
    rcases he with h | ⟨g1, cur, k1, k2, k3, k4, r⟩
    · exact .inl h
    · refine .inr ⟨g1, cur, k1, k2, by omega, (hp.grown.block g1 (Array.getElem?_eq_some_iff.1 k4).1 ?_).trans k4, r⟩
      intro heq
      rcases hown with ⟨rfl, _⟩ | ⟨g2, cur2, rfl, _⟩
      · simp [Value.ownBlock] at heq
      · simp [Value.ownBlock] at heq
        exact hne g1 k1 (by rw [heq])
  refine ⟨by rw [List.length_append]; exact hp.own, fun e he => ?_, ?_⟩
  · rw [List.mem_append, List.mem_singleton] at he
    rcases he with he | rfl
    · exact keep e (h e he)
    · exact keep e hd
  · refine List.pairwise_append.2 ⟨ha, List.pairwise_singleton _ _, ?_⟩
    intro e he f hf a h1
    rw [List.mem_singleton] at hf
    subst hf
    exact hnew e he a h1
end
end Go.Proofs.YtncjfgebolikoaaDoor

/-
  Contracts of the law's helpers on slices of slices of integers.
-/
namespace Go.Proofs.YtncjfgebolikoaaDoor
open Go.RowKit

/-- How many numbers there are in all. -/
def tot (D : List Dsc) : Nat := (D.map fun d => d.2.2.length).sum
theorem tot_snoc (D : List Dsc) (d : Dsc) : tot (D ++ [d]) = tot D + d.2.2.length := by simp [tot]
theorem take_at {D : List Dsc} {k : Nat} {d : Dsc} (h : D[k]? = some d) : D.take (k + 1) = D.take k ++ [d] := by
  rw [List.take_add_one, h]; rfl
theorem tot_take_le (D : List Dsc) (k : Nat) : tot (D.take k) ≤ tot D := by
  conv => rhs; rw [← List.take_append_drop k D]
  unfold tot
  rw [List.map_append, List.sum_append]
  exact Nat.le_add_right _ _
theorem tot_lists {D E : List Dsc} (h : lists D = lists E) : tot D = tot E := by
  have : ∀ D : List Dsc, tot D = ((lists D).map List.length).sum := fun D => by simp [tot, lists, Function.comp_def]
  rw [this, this, h]
theorem len_lists {D E : List Dsc} (h : lists D = lists E) : D.length = E.length := by
  have := congrArg List.length h
  simpa [lists] using this
theorem lists_at {D E : List Dsc} (h : lists D = lists E) {k : Nat} {d e : Dsc} (hd : D[k]? = some d) (he : E[k]? = some e) : d.2.2 = e.2.2 := by
  have := congrArg (fun l => l[k]?) h
  simpa [lists, hd, he] using this

set_option maxHeartbeats 1000000 in
theorem szIntSS_max (A : Option Addr) (c : Nat) (D : List Dsc) (left : Int) (w : World) (B : Nat) (h : RdD w B A c D) (hn : D.length ≤ maxLen) (hl : ∀ d ∈ D, d.2.2.length ≤ maxLen) (h0 : 0 ≤ left) (h1 : left ≤ 1048576) :
    Calls Tryd.prog 31 #[.slice A D.length c, .int .i64 left] w fun e w' => e = .returned (.int .i64 (szl left (D.length + tot D))) ∧ w = w' := by
  obtain ⟨n, hnn⟩ : ∃ n, n = D.length := ⟨_, rfl⟩
  rw [← hnn] at hn ⊢
  have Hn := Lib.hid hnn
  have hn' := hn
  unfold maxLen at hn'
  clear hnn hn
  by_cases hlt : left < n
  · have h' : left - n < 0 := by omega
    have he : Hid (szl left (n + tot D) = -1) := by show szl left (n + tot D) = -1; unfold szl; rw [if_pos (by omega)]
    go_enter Tryd.func31, Tryd.ntmps31
    go_wp2
    go_ret
    exact ⟨ret_int he.out.symm, rfl⟩
  have h' : 0 ≤ left - n := by omega
  go_enter Tryd.func31, Tryd.ntmps31
  go_wp2
  go_loop [1, 5] (fun l i => ∃ k : Nat, k ≤ n ∧ i = .int .i64 k ∧ ∃ t : Nat, l = .int .i64 (left - n - t) ∧ (t : Int) ≤ left - n ∧ Hid (t = tot (D.take k))) (fun _ i => n - (intOf i).toNat)
  case atStart => exact ⟨0, Nat.zero_le _, rfl, 0, by go_num, by omega, by simp [Hid, tot]⟩
  case round =>
    obtain ⟨k, hk, rfl, t, rfl, ht, hT⟩ := hrel
    by_cases hkn : k < n
    · obtain ⟨d, hd, hm, hdv⟩ := dvs_at (D := D) (j := k) (by rw [← Hn.out]; exact hkn)
      obtain ⟨b, o, rfl, lb, hc⟩ := h.1.2 (by rw [← Hn.out]; omega)
      have f1 := hc k (by rw [← Hn.out]; exact hkn)
      rw [hdv] at f1
      have hlen := hl d hm
      have hts := take_at hd
      have htl := tot_take_le D (k + 1)
      rw [hts, tot_snoc, ← hT.out] at htl
      obtain ⟨da, dc, dl⟩ := d
      simp only [dv] at f1 hlen htl
      obtain ⟨m, hm2⟩ : ∃ m, m = dl.length := ⟨_, rfl⟩
      rw [← hm2] at f1 hlen htl
      have Hts : Hid (tot (D.take (k + 1)) = t + m) := by show tot (D.take (k + 1)) = t + m; rw [hts, tot_snoc, ← hT.out, hm2]
      have e0 : 0 ≤ left - n - t := by omega
      have e1 : left - n - t ≤ 1048576 := by omega
      by_cases hlt2 : left - n - t < m
      · have he : Hid (szl left (n + tot D) = -1) := by show szl left (n + tot D) = -1; unfold szl; rw [if_pos (by omega)]
        have q1 : szl (left - n - t) m = -1 := by unfold szl; rw [if_pos hlt2]
        clear hc h hts hd hdv hl hm2 hm htl
        go_wp2_with fail
        refine (szIntS_max da m dc (left - n - t) w hlen e0 e1).mono ?_
        rw [q1]
        clear q1
        rintro e w' ⟨rfl, rfl⟩
        go_wp2
        go_ret
        exact ⟨ret_int he.out.symm, rfl⟩
      · have q1 : szl (left - n - t) m = left - n - t - m := by unfold szl; rw [if_neg hlt2]
        have q2 : 0 ≤ left - n - t - m := by omega
        clear hc h hts hd hdv hl hm2 hm htl
        go_wp2_with fail
        refine (szIntS_max da m dc (left - n - t) w hlen e0 e1).mono ?_
        rw [q1]
        clear q1
        rintro e w' ⟨rfl, rfl⟩
        go_wp2
        go_round
        case rel => exact ⟨k + 1, by omega, by go_num, t + m, congrArg (Value.int .i64) (by omega), by omega, Hts.out.symm⟩
        case measure => simp [intOf]; omega
    · have he : Hid (szl left (n + tot D) = left - n - t) := by
        show szl left (n + tot D) = left - n - t
        have : tot D = t := by rw [hT.out, List.take_of_length_le (by rw [← Hn.out]; omega)]
        unfold szl
        rw [this, if_neg (by omega)]
        omega
      have hge : (n : Int) ≤ (k : Int) := by omega
      clear h hl
      go_wp2
      go_ret
      exact ⟨ret_int he.out.symm, rfl⟩

set_option maxHeartbeats 1000000 in
theorem eqIntSS_yes (A1 A2 : Option Addr) (c1 c2 : Nat) (D E : List Dsc) (w : World) (B1 B2 : Nat) (h1 : RdD w B1 A1 c1 D) (h2 : RdD w B2 A2 c2 E) (hB1 : B1 ≤ w.heap.size) (hB2 : B2 ≤ w.heap.size) (hl : lists D = lists E) (hn : D.length ≤ 1073741824) (ht : tot D ≤ 1073741824) :
    Calls Tryd.prog 46 #[.slice A1 D.length c1, .slice A2 E.length c2] w fun e w' => e = .returned (.bool true) ∧ Below w.heap.size w w' := by
  have hle := len_lists hl
  rw [← hle]
  obtain ⟨n, hnn⟩ : ∃ n, n = D.length := ⟨_, rfl⟩
  rw [← hnn] at hn hle ⊢
  have Hn := Lib.hid hnn
  have Hl := Lib.hid hle
  have HL := Lib.hid hl
  clear hnn hle hl
  go_enter Tryd.func46, Tryd.ntmps46
  go_wp2
  go_loopw [5] (fun i wr => ∃ k : Nat, k ≤ n ∧ i = .int .i64 k ∧ Below w.heap.size w wr) (fun i _ => n - (intOf i).toNat)
  case atStart => exact ⟨0, Nat.zero_le _, rfl, Below.refl _ _⟩
  case round =>
    obtain ⟨k, hk, rfl, hbr⟩ := hrel
    by_cases hlt : k < n
    · obtain ⟨d, hd, hm, hdv⟩ := dvs_at (D := D) (j := k) (by rw [← Hn.out]; exact hlt)
      obtain ⟨d', hd', hm', hdv'⟩ := dvs_at (D := E) (j := k) (by rw [← Hl.out]; exact hlt)
      have r1 := (h1.2 d hm).keep (hbr.drew.mono hB1) (Nat.le_refl _)
      have r2 := (h2.2 d' hm').keep (hbr.drew.mono hB2) (Nat.le_refl _)
      have hdd := lists_at HL.out hd hd'
      obtain ⟨b1, o1, rfl, l1, c1'⟩ := h1.1.2 (by rw [← Hn.out]; omega)
      obtain ⟨b2, o2, rfl, l2, c2'⟩ := h2.1.2 (by rw [← Hl.out]; omega)
      have f1 := (hbr.cell (p := ⟨b1, o1 + k, none⟩) (by show b1 < _; omega)).trans (c1' k (by rw [← Hn.out]; exact hlt))
      have f2 := (hbr.cell (p := ⟨b2, o2 + k, none⟩) (by show b2 < _; omega)).trans (c2' k (by rw [← Hl.out]; exact hlt))
      rw [hdv] at f1
      rw [hdv'] at f2
      have hm7 : d.2.2.length ≤ 1073741824 := by
        have h3 := tot_take_le D (k + 1)
        rw [take_at hd, tot_snoc] at h3
        omega
      obtain ⟨da, dc, dl⟩ := d
      obtain ⟨ea, ec, el⟩ := d'
      simp only [dv] at f1 f2 hdd r1 r2 hm7
      subst hdd
      have i1 : (k : Int) < (n : Int) := by omega
      have hz := hbr.size
      have R1 := Lib.hid r1
      have R2 := Lib.hid r2
      clear c1' c2' h1 h2 hd hd' hm hm' hdv hdv' r1 r2
      obtain ⟨m, hm2⟩ : ∃ m, m = dl.length := ⟨_, rfl⟩
      rw [← hm2] at f1 f2 hm7 R1 R2
      clear hm2
      go_wp2_with fail
      go_region_held3 (fun z => z.cell? ⟨b1, o1 + k, none⟩ = some (.slice da m dc) ∧ z.cell? ⟨b2, o2 + k, none⟩ = some (.slice ea m ec))
        (first | (refine ⟨?_, ?_⟩ <;> assumption) | (refine ⟨?_, ?_⟩ <;> (refine (hb.cell (by first | (show b1 < wr.heap.size; omega) | (show b2 < wr.heap.size; omega))).trans ?_; assumption)))
        ((go_at_call 45; (refine (eqIntS_yes _ _ _ _ _ _ _ _ _ R1.out R2.out (Nat.le_trans hB1 hz) (Nat.le_trans hB2 hz) (by omega)).mono ?_); rintro e w1 ⟨rfl, hb⟩))
      have HB := Lib.hid (hbr.drew.trans (hb.mono hbr.size))
      clear f1 f2 hb hbr
      go_wp2
      go_roundw
      case rel => exact ⟨k + 1, by omega, by go_num, HB.out⟩
      case measure => simp [intOf]; omega
    · have hge : (n : Int) ≤ (k : Int) := by omega
      have HB := Lib.hid hbr
      clear hbr h1 h2
      go_wp2
      go_ret
      exact ⟨rfl, HB.out⟩

/-- The outer cells behind j rounds of the copy. -/
def cpd (E : List Dsc) : Nat → Value := fun i => if i < E.length then dvs E i else .slice none 0 0
theorem cpd_succ (E : List Dsc) (d : Dsc) : (fun i => if i = E.length then dv d else cpd E i) = cpd (E ++ [d]) := by
  funext i
  unfold cpd
  rw [List.length_append, List.length_singleton]
  by_cases h : i = E.length
  · subst h; rw [if_pos rfl, if_pos (by omega), dvs_last]
  · rw [if_neg h]
    by_cases h2 : i < E.length
    · rw [if_pos h2, if_pos (by omega), dvs_left h2]
    · rw [if_neg h2, if_neg (by omega)]

set_option maxHeartbeats 1000000 in
theorem toIntSS_any (A : Option Addr) (c : Nat) (D : List Dsc) (w : World) (B : Nat) (h : RdD w B A c D) (hB : B ≤ w.heap.size) (hn : D.length ≤ 1048576) (ht : tot D ≤ 1048576) :
    Calls Tryd.prog 38 #[.slice A D.length c] w fun e w' => ∃ (g : Nat) (E : List Dsc), w.heap.size ≤ g ∧ e = .returned (.slice (some ⟨g, 0, none⟩) E.length E.length) ∧ lists E = lists D ∧ OwnD w' w.heap.size w'.heap.size (some ⟨g, 0, none⟩) E.length E ∧ Below w.heap.size w w' := by
  obtain ⟨n, hnn⟩ : ∃ n, n = D.length := ⟨_, rfl⟩
  rw [← hnn] at hn ⊢
  have Hn := Lib.hid hnn
  clear hnn
  have hmk := fun W => run_make_row' (P := Tryd.prog) 32 29 (.slice none 0 0) 24 Tryd.underlying32 info_ints rfl .i64 .i64 n (by omega) (by omega) W
  go_enter Tryd.func38, Tryd.ntmps38
  go_wp2
  clear hmk
  go_loopw [4] (fun i wr => ∃ E : List Dsc, E.length ≤ n ∧ i = .int .i64 E.length ∧ Hid (lists E = lists (D.take E.length)) ∧ Own wr w.heap.size (w.heap.size + 1) 29 1 (some ⟨w.heap.size, 0, none⟩) n n (cpd E) ∧ Hid (∀ d ∈ E, Own wr (w.heap.size + 1) wr.heap.size 3 1 d.1 d.2.2.length d.2.1 (ii d.2.2)) ∧ Hid (Apart E) ∧ Below w.heap.size w wr ∧ w.heap.size < wr.heap.size) (fun i _ => n - (intOf i).toNat)
  case atStart =>
    refine ⟨[], Nat.zero_le _, rfl, by simp [Hid, lists], ?_, (fun d hd => by cases hd), List.Pairwise.nil, (Below.refl _ _).alloc (Nat.le_refl _) _, by simp⟩
    obtain ⟨cc, q1, q2, q3⟩ := World.rowIs_made w (.slice none 0 0) n 29
    exact .inr ⟨_, cc, rfl, Nat.le_refl _, Nat.lt_succ_self _, q1, Nat.le_refl _, by unfold maxLen; omega, by omega, fun j hj => by rw [q3 j (by omega)]; simp [cpd]⟩
  case round =>
    obtain ⟨E, hE, rfl, hL, hown, hin, hap, hbr, hz⟩ := hrel
    obtain ⟨j, hj⟩ : ∃ j, j = E.length := ⟨_, rfl⟩
    rw [← hj] at hE hL ⊢
    have Hj := Lib.hid hj
    by_cases hlt : j < n
    · obtain ⟨d, hd, hm, hdv⟩ := dvs_at (D := D) (j := j) (by rw [← Hn.out]; exact hlt)
      have r1 := (h.2 d hm).keep (hbr.mono hB) (Nat.le_refl _)
      obtain ⟨b, o, rfl, lb, hc⟩ := h.1.2 (by rw [← Hn.out]; omega)
      have f1 := (hbr.cell (p := ⟨b, o + j, none⟩) (by show b < _; omega)).trans (hc j (by rw [← Hn.out]; exact hlt))
      rw [hdv] at f1
      have hm7 : d.2.2.length ≤ 1048576 := by
        have h3 := tot_take_le D (j + 1)
        rw [take_at hd, tot_snoc] at h3
        omega
      have HL : Hid (lists (D.take (j + 1)) = lists E ++ [d.2.2]) := by
        show lists (D.take (j + 1)) = lists E ++ [d.2.2]
        rw [take_at hd, hL.out]; simp [lists]
      obtain ⟨da, dc, dl⟩ := d
      simp only [dv] at f1 r1 hm7 HL
      have i1 : (j : Int) < (n : Int) := by omega
      have R1 := Lib.hid r1
      have HO := Lib.hid hown
      obtain ⟨m, hm2⟩ : ∃ m, m = dl.length := ⟨_, rfl⟩
      rw [← hm2] at f1 hm7 R1
      have Hm := Lib.hid hm2
      clear hc h hd hm hdv r1 hown hm2 hj hL
      go_wp2_with fail
      refine (toIntS_any da m dc _ wr B R1.out (by omega) hm7).mono ?_
      rintro e w1 ⟨g, hg, rfl, ho, hb⟩
      have ho1 := HO.out.keepB hb (by omega)
      obtain ⟨g0, e, g1, g2, g3, hc2, hf2⟩ := ho1.at_ (by omega)
      simp only [Option.some.injEq, Addr.mk.injEq, and_true] at e
      subst e
      have f2 := hc2 j (by omega)
      have f3 := hf2 j
      have hs := ho1.set_ j (dv (some ⟨g, 0, none⟩, m, dl))
      rw [show (fun i => if i = j then dv (some ⟨g, 0, none⟩, m, dl) else cpd E i) = cpd (E ++ [(some ⟨g, 0, none⟩, m, dl)]) by rw [Hj.out]; exact cpd_succ _ _] at hs
      have hb' := (hbr.trans (hb.mono hbr.size)).setCell (p := ⟨w.heap.size, j, none⟩) (Nat.le_refl _) (dv (some ⟨g, 0, none⟩, m, dl))
      have hfr : Fr w.heap.size (w.heap.size + 1) w1 (w1.setCell ⟨w.heap.size, j, none⟩ (dv (some ⟨g, 0, none⟩, m, dl))) := (Fr.refl _ _ _).setCell (p := ⟨w.heap.size, j, none⟩) (Nat.le_refl _) (Nat.lt_succ_self _) _
      have hzz := hb.size
      have hin2 : ∀ d ∈ E ++ [((some ⟨g, 0, none⟩, m, dl) : Dsc)], Own (w1.setCell ⟨w.heap.size, j, none⟩ (dv (some ⟨g, 0, none⟩, m, dl))) (w.heap.size + 1) w1.heap.size 3 1 d.1 d.2.2.length d.2.1 (ii d.2.2) := by
        intro d hd
        rw [List.mem_append, List.mem_singleton] at hd
        rcases hd with hd | rfl
        · exact ((((hin.out d hd).keepB hb (Nat.le_refl _)).mono (Nat.le_refl _) hzz).keep hfr (.inr (Nat.le_refl _)))
        · have h1 := (ho.keep hfr (.inr (by omega))).mono (lo' := w.heap.size + 1) (by omega) (Nat.le_refl _)
          rw [← Hm.out]
          exact h1
      have hap2 : Apart (E ++ [((some ⟨g, 0, none⟩, m, dl) : Dsc)]) := by
        refine List.pairwise_append.2 ⟨hap.out, List.pairwise_singleton _ _, ?_⟩
        intro e he f hf a h1
        rw [List.mem_singleton] at hf
        subst hf
        intro h2
        simp only [Option.some.injEq] at h2
        subst h2
        rcases (hin.out e he).at_block with h3 | ⟨g5, h3, h4, h5⟩
        · rw [h3] at h1; cases h1
        · rw [h1] at h3
          simp only [Option.some.injEq, Addr.mk.injEq, and_true] at h3
          omega
      have H1 := Lib.hid hs
      have H2 := Lib.hid hb'
      have H3 := Lib.hid hin2
      have H4 := Lib.hid hap2
      have hne : w.heap.size < w1.heap.size := by omega
      simp only [dv, ← Hm.out] at H1 H2 H3
      clear hc2 hf2 hs hb' hfr hin2 hap2 ho ho1 HO hb hbr hin hap f1 R1
      go_wp2
      go_roundw
      case rel =>
        refine ⟨E ++ [(some ⟨g, 0, none⟩, m, dl)], by rw [List.length_append, ← Hj.out, List.length_singleton]; omega, congrArg (Value.int .i64) (by rw [List.length_append, ← Hj.out, List.length_singleton]; omega), ?_, H1.out, ?_, H4, H2.out, by simpa [World.setCell] using hne⟩
        · show lists (E ++ [(some ⟨g, 0, none⟩, m, dl)]) = lists (D.take (E ++ [((some ⟨g, 0, none⟩, m, dl) : Dsc)]).length)
          rw [List.length_append, ← Hj.out, List.length_singleton, HL.out]; simp [lists]
        · intro d hd
          exact (H3.out d hd).mono (Nat.le_refl _) (by simp [World.setCell])
      case measure => simp [intOf]; omega
    · obtain rfl : j = n := by omega
      have HL : Hid (lists E = lists D) := by
        show lists E = lists D
        rw [hL.out, List.take_of_length_le (by rw [← Hn.out]; exact Nat.le_refl _)]
      have HO := Lib.hid hown
      have HB := Lib.hid hbr
      clear hown hbr h hj hL
      go_wp2
      go_ret
      refine ⟨w.heap.size, E, Nat.le_refl _, by rw [← Hj.out]; rfl, HL.out, ⟨?_, fun d hd => (hin.out d hd).mono (by omega) (Nat.le_refl _), hap.out⟩, HB.out⟩
      have h1 := (HO.out.congr (y := dvs E) (fun i hi => by unfold cpd; rw [if_pos (by have := Hj.out; omega)])).lt
      rw [← Hj.out]
      exact h1.mono (Nat.le_refl _) (Nat.min_le_right _ _)

end Go.Proofs.YtncjfgebolikoaaDoor

/-
  append of all elements of a slice of integers that is only read onto a slice of integers of the call's own.
-/
namespace Go.Proofs.YtncjfgebolikoaaDoor
open Go.RowKit


section
variable (w : World) {ops : Array Oper} {rest : List Oper} {o : Oper} {a : Act} {K : Act → World → Prop} {Q : Exit → Act → World → Prop} {E : Prop}
  {lo hi B n c m c2 : Nat} {A A2 : Option Addr} {x : Nat → Value} {y : Nat → Int}
end
end Go.Proofs.YtncjfgebolikoaaDoor

/-
  append of all elements of a slice of slices that is only read onto a slice of slices of the call's own.
-/
namespace Go.Proofs.YtncjfgebolikoaaDoor
open Go.RowKit

section
variable (w : World) {ops : Array Oper} {rest : List Oper} {o : Oper} {a : Act} {K : Act → World → Prop} {Q : Exit → Act → World → Prop} {E : Prop}
  {lo hi B n c m c2 : Nat} {A A2 : Option Addr} {x y : Nat → Value}
end
end Go.Proofs.YtncjfgebolikoaaDoor

/-
  Contracts: a copy of a graph in new memory, of both programs; two bits turned.
-/
namespace Go.Proofs.YtncjfgebolikoaaDoor
open Go.RowKit

end Go.Proofs.YtncjfgebolikoaaDoor

/-
  Contracts: two bits of a graph turned.
-/
namespace Go.Proofs.YtncjfgebolikoaaDoor
open Go.RowKit


end Go.Proofs.YtncjfgebolikoaaDoor

/-
  The pairs of n vertices in lexicographic order, gone through one after the other; plain lists, no program.
-/
namespace Go.Proofs.YtncjfgebolikoaaDoor

/-- The pairs that stand before (v, w): all of the vertices before v, and those of v with a vertex before w. -/
def prRow (n v : Nat) : List (Nat × Nat) := (List.range' (v + 1) (n - (v + 1))).map fun w => (v, w)
def prTo (n v w : Nat) : List (Nat × Nat) := (List.range v).flatMap (prRow n) ++ (List.range' (v + 1) (w - (v + 1))).map fun u => (v, u)
def pr (n : Nat) : List (Nat × Nat) := (List.range n).flatMap (prRow n)

theorem prTo_zero (n : Nat) : prTo n 0 1 = [] := by simp [prTo]
theorem prTo_step (n v w : Nat) (h : v + 1 ≤ w) : prTo n v (w + 1) = prTo n v w ++ [(v, w)] := by
  unfold prTo
  rw [List.append_assoc]
  congr 1
  rw [show w + 1 - (v + 1) = (w - (v + 1)) + 1 by omega, List.range'_concat, List.map_append]
  congr 1
  simp only [List.map_cons, List.map_nil, Nat.one_mul]
  rw [show v + 1 + (w - (v + 1)) = w by omega]
theorem prTo_row (n v : Nat) : prTo n (v + 1) (v + 1 + 1) = prTo n v n := by
  unfold prTo
  rw [List.range_succ, List.flatMap_append]
  simp [prRow]
theorem prTo_end (n w : Nat) (h : w ≤ n + 1) : prTo n n w = pr n := by
  unfold prTo pr
  rw [show w - (n + 1) = 0 by omega]
  simp
theorem mem_pr {n : Nat} {p : Nat × Nat} : p ∈ pr n ↔ p.1 < p.2 ∧ p.2 < n := by
  obtain ⟨a, b⟩ := p
  simp only [pr, prRow, List.mem_flatMap, List.mem_range, List.mem_map, List.mem_range'_1, Prod.mk.injEq]
  constructor
  · rintro ⟨v, hv, w, hw, rfl, rfl⟩; omega
  · rintro ⟨h1, h2⟩; exact ⟨a, by omega, b, by omega, rfl, rfl⟩
/-- How long the list is. -/
theorem length_pr_le {n : Nat} (h : n ≤ 7) : (pr n).length ≤ 21 := by
  have h8 : n = 0 ∨ n = 1 ∨ n = 2 ∨ n = 3 ∨ n = 4 ∨ n = 5 ∨ n = 6 ∨ n = 7 := by omega
  rcases h8 with rfl | rfl | rfl | rfl | rfl | rfl | rfl | rfl <;> decide
theorem prTo_prefix (n v w : Nat) (hv : v < n) (h : v + 1 ≤ w) (hw : w ≤ n) : ∃ t, pr n = prTo n v w ++ t := by
  obtain ⟨d, rfl⟩ : ∃ d, n = w + d := ⟨n - w, by omega⟩
  have : prRow (w + d) v = (List.range' (v + 1) (w - (v + 1))).map (fun u => (v, u)) ++ (List.range' w d).map (fun u => (v, u)) := by
    unfold prRow
    rw [← List.map_append]
    congr 1
    rw [show w + d - (v + 1) = (w - (v + 1)) + d by omega, ← List.range'_append_1]
    rw [show v + 1 + (w - (v + 1)) = w by omega]
  obtain ⟨e, he⟩ : ∃ e, w + d = v + 1 + e := ⟨w + d - (v + 1), by omega⟩
  refine ⟨(List.range' w d).map (fun u => (v, u)) ++ (List.range' (v + 1) e).flatMap (prRow (w + d)), ?_⟩
  unfold pr prTo
  have hr : List.range (w + d) = List.range v ++ (v :: List.range' (v + 1) e) := by
    rw [he, List.range_eq_range', List.range_eq_range']
    have h1 := List.range'_append_1 (s := 0) (m := v) (n := e + 1)
    rw [Nat.zero_add] at h1
    rw [show v + 1 + e = v + (e + 1) by omega, ← h1, List.range'_succ]
  rw [hr, List.flatMap_append, List.flatMap_cons, this]
  simp [List.append_assoc]
end Go.Proofs.YtncjfgebolikoaaDoor

/-
  Slices of edits: what they read as; the law's helpers on them.
-/
namespace Go.Proofs.YtncjfgebolikoaaDoor
open Go.RowKit

end Go.Proofs.YtncjfgebolikoaaDoor

/-
  Contracts: the edges of a graph, of both programs; whether two vertices of a good graph are neighbours.
-/
namespace Go.Proofs.YtncjfgebolikoaaDoor
open Go.RowKit

/-- append of one inner slice. -/
theorem wpList_pushD (W : World) {ops : Array Oper} {rest : List Oper} {o : Oper} {a : Act} {Q : Exit → Act → World → Prop} (hgd : o.guard = none) (s y : Operand)
    (ho : o.op = .call { callee := .builtin .append, args := #[s, y], argTypes := #[32, 32] })
    (lo hi : Nat) (A : Option Addr) (c : Nat) (D : List Dsc) (h : OwnD W lo hi A c D) (hlo : lo ≤ W.heap.size) (hhi : hi ≤ W.heap.size) (d : Dsc)
    (hd : Own W lo hi 3 1 d.1 d.2.2.length d.2.1 (ii d.2.2)) (hnew : ∀ e ∈ D, ∀ a, e.1 = some a → d.1 ≠ some a) (hs : a.eval s = .slice A D.length c) (cx H : Nat) (hH : W.heap.size = H) (hy : a.eval y = .slice (some ⟨H, 0, none⟩) 1 cx)
    (hn : D.length ≤ 1073741824)
    (hK : ∀ g cap w', OwnD w' lo w'.heap.size (some ⟨g, 0, none⟩) cap (D ++ [d]) → Below lo W w' → wpList Tryd.prog ops Q rest (a.put o.dst (.slice (some ⟨g, 0, none⟩) (D.length + 1) cap)) w') :
    wpList Tryd.prog ops Q (o :: rest) a (W.alloc (Obj.cells #[dv d] 29)) := by
  subst hH
  have ha := h.alloc (Obj.cells #[dv d] 29)
  refine wpList_push (W.alloc (Obj.cells #[dv d] 29)) hgd s y 32 ho 29 (.slice none 0 0) 1 24 Tryd.underlying32 info_ints rfl (by omega) lo hi A D.length c (dvs (D ++ [d])) hs
    (ha.1.congr (fun j hj => (dvs_left (by omega)).symm)) (by simp; omega) W.heap.size #[dv d] 29 (0, 0) cx (heap_alloc_new W _) hy rfl ?_ (by intro u hu; simp at hu; subst hu; rfl) hn (by omega) ?_
  · intro j hj
    obtain rfl : j = 0 := by omega
    rw [show D.length * 1 + 0 = D.length by omega, dvs_last]; rfl
  · intro g cap w' hp
    exact hK g cap w' (OwnD.push ha.2.1 ha.2.2 (hd.alloc _) hnew hp ha.1 (by simp; omega)) (((Below.refl _ _).alloc hlo _).trans hp.below)

theorem pair_own (w : World) (lo : Nat) (h : lo ≤ w.heap.size) (v u : Int) : Own (w.alloc (Obj.cells #[Value.int .i64 v, Value.int .i64 u] 3)) lo (w.heap.size + 1) 3 1 (some ⟨w.heap.size, 0, none⟩) 2 2 (ii [v, u]) :=
  .inr ⟨w.heap.size, _, rfl, h, Nat.lt_succ_self _, heap_alloc_new w _, Nat.le_refl _, by unfold maxLen; omega, rfl, fun j hj => by
    have hc : j = 0 ∨ j = 1 := by omega
    rcases hc with rfl | rfl <;> rfl⟩
theorem OwnD.fresh {w : World} {lo hi g c : Nat} {A : Option Addr} {D : List Dsc} (h : OwnD w lo hi A c D) (hg : hi ≤ g) : ∀ e ∈ D, ∀ a, e.1 = some a → (some (⟨g, 0, none⟩ : Addr)) ≠ some a := by
  intro e he a ha h2
  rcases (h.2.1 e he).at_block with h3 | ⟨g5, h3, _, h5⟩
  · rw [h3] at ha; cases ha
  · rw [ha] at h3
    rw [h3] at h2
    simp only [Option.some.injEq, Addr.mk.injEq, and_true] at h2
    omega

/-- The edges that stand before (v, u). -/
def ed (x : Nat → Int) (n v u : Nat) : List (List Int) := ((prTo n v u).filter fun p => (x p.1).toNat.testBit p.2).map fun p => [(p.1 : Int), (p.2 : Int)]
def edAll (x : Nat → Int) (n : Nat) : List (List Int) := ((pr n).filter fun p => (x p.1).toNat.testBit p.2).map fun p => [(p.1 : Int), (p.2 : Int)]
theorem ed_yes {x : Nat → Int} {n v u : Nat} (h : v + 1 ≤ u) (hb : (x v).toNat.testBit u = true) : ed x n v (u + 1) = ed x n v u ++ [[(v : Int), (u : Int)]] := by
  unfold ed; rw [prTo_step n v u h]; simp [hb]
theorem ed_no {x : Nat → Int} {n v u : Nat} (h : v + 1 ≤ u) (hb : (x v).toNat.testBit u = false) : ed x n v (u + 1) = ed x n v u := by
  unfold ed; rw [prTo_step n v u h]; simp [hb]
theorem ed_row {x : Nat → Int} {n v : Nat} : ed x n (v + 1) (v + 1 + 1) = ed x n v n := by unfold ed; rw [prTo_row]
theorem ed_zero {x : Nat → Int} {n : Nat} : ed x n 0 1 = [] := by unfold ed; rw [prTo_zero]; rfl
theorem ed_end {x : Nat → Int} {n : Nat} : ed x n n (n + 1) = edAll x n := by unfold ed edAll; rw [prTo_end n _ (Nat.le_refl _)]
theorem ed_len {x : Nat → Int} {n v u : Nat} (hn : n ≤ 7) (hv : v < n) (h : v + 1 ≤ u) (hu : u ≤ n) : (ed x n v u).length ≤ 21 := by
  obtain ⟨t, ht⟩ := prTo_prefix n v u hv h hu
  have h1 := length_pr_le hn
  rw [ht, List.length_append] at h1
  unfold ed
  rw [List.length_map]
  have := List.length_filter_le (fun p => (x p.1).toNat.testBit p.2) (prTo n v u)
  omega

/-- The edges of a graph that is one, none else. -/
noncomputable def edgesL (s : Int) (m : Nat) (x : Nat → Int) : List (List Int) := if okB s m x = true then edAll x m else []

set_option maxHeartbeats 1000000 in
theorem EdgesOf_i (s : Int) (A : Option Addr) (m c : Nat) (x : Nat → Int) (w : World) (B : Nat) (h : Rd w B A m c x) (hB : B ≤ w.heap.size) (hm : m ≤ 1048576) :
    Calls Tryd.prog 57 #[.agg #[.int .i64 s, .slice A m c]] w fun e w' => ∃ A' c' D, e = .returned (.slice A' D.length c') ∧ lists D = edgesL s m x ∧ OwnD w' w.heap.size w'.heap.size A' c' D ∧ Below w.heap.size w w' := by
  obtain ⟨W, hW⟩ : ∃ W : World, W = (w.alloc (Obj.cells #[Value.int IntKind.i64 s, Value.slice A m c] 37)).alloc (Obj.cells #[] 29) := ⟨_, rfl⟩
  have HB : Hid (Below w.heap.size w W) := by rw [hW]; exact ((Below.refl _ _).alloc (Nat.le_refl _) _).alloc (by simp) _
  have hsz : w.heap.size < W.heap.size := by rw [hW]; simp; omega
  have hz1 : w.heap.size + 1 < W.heap.size := by rw [hW]; simp
  have e0 : W.cell? ⟨w.heap.size, 0, none⟩ = some (.int .i64 s) := by rw [hW]; simp [go_sem]
  have e1 : W.cell? ⟨w.heap.size, 1, none⟩ = some (.slice A m c) := by rw [hW]; simp [go_sem]
  have HD : Hid (OwnD W (w.heap.size + 1) W.heap.size (some ⟨w.heap.size + 1, 0, none⟩) 0 []) := by
    refine OwnD.none_ _ _ _ _ (Nat.le_refl _) hz1 ?_
    rw [hW]
    have := heap_alloc_new (w.alloc (Obj.cells #[Value.int IntKind.i64 s, Value.slice A m c] 37)) (Obj.cells #[] 29)
    simpa using this
  have HW := Lib.hid hW
  clear hW
  go_enter Tryd.func57, Tryd.ntmps57
  go_wp2_with fail
  rw [← HW.out]
  refine (IsGraph_any s A m c x W B (h.keep (HB.out.mono hB) (Nat.le_refl _)) (by omega) hm).mono ?_
  rintro e w1 ⟨rfl, hb1⟩
  have f0 := up hb1 e0 hsz
  have f1 := up hb1 e1 hsz
  have z1 := hb1.size
  have HD1 := Lib.hid (HD.out.keepB hb1 (Nat.le_refl _))
  have HB1 := Lib.hid (HB.out.trans (hb1.mono (by omega)))
  have k1 := h.keep (HB1.out.mono hB) (Nat.le_refl _)
  clear HW HB HD e0 e1 hb1
  cases hok : okB s m x
  · have hE : Hid (([] : List (List Int)) = edgesL s m x) := by show [] = edgesL s m x; unfold edgesL; rw [hok]; rfl
    clear hok h k1
    go_wp2
    go_ret
    exact ⟨_, 0, [], rfl, hE.out, HD1.out.mono (by omega) z1, HB1.out⟩
  · have hOK : OkG s m x := by
      refine Classical.byContradiction fun h => ?_
      rw [okB_no h] at hok; cases hok
    obtain ⟨r, rfl, vg, hx⟩ := hOK
    have hE : Hid (edgesL m m x = edAll x m) := by
      show edgesL m m x = _; unfold edgesL; rw [hok]; rfl
    have hm1 := vg.n1
    have hm7 := vg.n7
    obtain ⟨b, o, rfl, lb, hc⟩ := k1.pos (by omega)
    have HX := Lib.hid hx
    have hzz : w.heap.size < w1.heap.size := by omega
    clear hok h k1 hx
    go_wp2
    go_loopw [3, 15] (fun l i wr => ∃ (v : Nat) (A' : Option Addr) (c' : Nat) (D : List Dsc), v ≤ m ∧ i = .int .i64 v ∧ l = .slice A' D.length c' ∧ Hid (lists D = ed x m v (v + 1)) ∧ Hid (OwnD wr (w.heap.size + 1) wr.heap.size A' c' D) ∧ Below (w.heap.size + 1) w1 wr) (fun _ i _ => m - (intOf i).toNat)
    case atStart => exact ⟨0, _, 0, [], Nat.zero_le _, rfl, rfl, by show lists [] = _; rw [ed_zero]; rfl, HD1.out.mono (Nat.le_refl _) z1, Below.refl _ _⟩
    case round =>
      obtain ⟨v, A', c', D, hv, rfl, rfl, hL, hO, hbr⟩ := hrel
      by_cases hlt : v < m
      · have q0 := up hbr f0 (Nat.lt_succ_self _)
        have q1 := up hbr f1 (Nat.lt_succ_self _)
        have q2 := (hbr.cell (p := ⟨b, o + v, none⟩) (by show b < _; omega)).trans (hc v hlt)
        have x0 : 0 ≤ x v := by have := HX.out v hlt; omega
        have x1 : x v < 16777216 := by have := HX.out v hlt; have := vg.lt128 hlt; omega
        have i1 : (v : Int) < (m : Int) := by omega
        clear hc
        go_wp2
        obtain ⟨wo, rfl⟩ : ∃ wo : World, wo = wr := ⟨_, rfl⟩
        go_loopw [3, 6] (fun l i wr => ∃ (u : Nat) (A' : Option Addr) (c' : Nat) (D : List Dsc), v + 1 ≤ u ∧ u ≤ m ∧ i = .int .i64 u ∧ l = .slice A' D.length c' ∧ Hid (lists D = ed x m v u) ∧ Hid (OwnD wr (w.heap.size + 1) wr.heap.size A' c' D) ∧ Below (w.heap.size + 1) w1 wr) (fun _ i _ => m - (intOf i).toNat)
        case atStart => exact ⟨v + 1, A', c', D, Nat.le_refl _, by omega, by go_num, rfl, hL, hO, hbr⟩
        case round =>
          obtain ⟨u, A', c', D, hu1, hu2, rfl, rfl, hL, hO, hbr⟩ := hrel
          have q0 := up hbr f0 (Nat.lt_succ_self _)
          by_cases hlu : u < m
          · have i2 : (u : Int) < (m : Int) := by omega
            cases hbit : (x v).toNat.testBit u
            · have HL : Hid (lists D = ed x m v (u + 1)) := hL.out.trans (ed_no hu1 hbit).symm
              have Hb := Lib.hid hbit
              clear hbit hL
              go_wp2_with fail
              refine (has_any _ _ _ x0 x1 (by omega) (by omega)).mono ?_
              simp only [Int.toNat_natCast, Hb.out]
              rintro e w' ⟨rfl, rfl⟩
              go_wp2
              go_roundw
              case rel => exact ⟨u + 1, A', c', D, by omega, by omega, by go_num, rfl, HL, hO, hbr⟩
              case measure => simp [intOf]; omega
            · have HL : Hid (lists D ++ [[(v : Int), (u : Int)]] = ed x m v (u + 1)) := by show _ = _; rw [hL.out]; exact (ed_yes hu1 hbit).symm
              have hlen : D.length ≤ 21 := by
                have h1 := congrArg List.length hL.out
                rw [lists, List.length_map] at h1
                rw [h1]; exact ed_len hm7 hlt hu1 hu2
              have Hb := Lib.hid hbit
              have zz := hbr.size
              clear hbit hL
              go_wp2_with fail
              refine (has_any _ _ _ x0 x1 (by omega) (by omega)).mono ?_
              simp only [Int.toNat_natCast, Hb.out]
              rintro e w' ⟨rfl, rfl⟩
              go_wp2_with (first | (at_builtin; (refine wpList_pushD (wr.alloc (Obj.cells #[Value.int .i64 v, Value.int .i64 u] 3)) rfl _ _ rfl (w.heap.size + 1) (wr.heap.size + 1) A' c' D ((hO.out.alloc _).mono (Nat.le_refl _) (Nat.le_succ _)) (by simp; omega) (by simp) (some ⟨wr.heap.size, 0, none⟩, 2, [(v : Int), (u : Int)]) (pair_own wr (w.heap.size + 1) (by omega) v u) (hO.out.fresh (Nat.le_refl _)) rfl 1 (wr.heap.size + 1) (by simp) rfl (by omega) ?_; intro g cap w2 hO2 hb2)))
              have H1 := Lib.hid hO2
              have H2 : Hid (Below (w.heap.size + 1) w1 w2) := (hbr.alloc (by omega) _).trans hb2
              clear hO2 hb2 hO hbr q0
              go_wp2
              go_roundw
              case rel => exact ⟨u + 1, _, _, D ++ [(some ⟨wr.heap.size, 0, none⟩, 2, [(v : Int), (u : Int)])], by omega, by omega, by go_num, by rw [List.length_append]; rfl, by show lists (D ++ _) = _; rw [← HL.out]; simp [lists], H1, H2.out⟩
              case measure => simp [intOf]; omega
          · have hge : (m : Int) ≤ (u : Int) := by omega
            have eu : u = m := by omega
            have HL : Hid (lists D = ed x m (v + 1) (v + 1 + 1)) := by show _ = _; rw [ed_row, ← eu, hL.out, eu]
            have Hb := Lib.hid hbr
            clear hL hbr eu
            go_wp2
            go_roundw
            case rel => exact ⟨v + 1, A', c', D, by omega, by go_num, rfl, HL, hO, Hb.out⟩
            case measure => simp [intOf]; omega
      · have ev : v = m := by omega
        have hge : (m : Int) ≤ (v : Int) := by omega
        have HL : Hid (lists D = edgesL m m x) := by show _ = _; rw [hL.out, ev, ed_end, hE.out]
        have H2 : Hid (Below w.heap.size w wr) := HB1.out.trans (hbr.mono (Nat.le_succ _))
        clear hL hbr ev hc f0 f1
        go_wp2
        go_ret
        exact ⟨A', c', D, rfl, HL.out, hO.out.mono (Nat.le_succ _) (Nat.le_refl _), H2.out⟩
end Go.Proofs.YtncjfgebolikoaaDoor

/-
  Contracts of the reference: whether two vertices of a good graph are neighbours; the edges of a graph.
-/
namespace Go.Proofs.YtncjfgebolikoaaDoor
open Go.RowKit

theorem l2Edge_any (s : Int) (b o m c : Nat) (w : World) (v u : Nat) (y : Int) (hy : w.cell? ⟨b, o + v, none⟩ = some (.int .i64 y)) (hb : b < w.heap.size) (hv : v < m) (h0 : 0 ≤ y) (h1 : y < 16777216) (hu : u ≤ 63) :
    Calls Tryd.prog 64 #[.agg #[.int .i64 s, .slice (some ⟨b, o, none⟩) m c], .int .i64 v, .int .i64 u] w fun e w' => e = .returned (.bool (y.toNat.testBit u)) ∧ Below w.heap.size w w' := by
  have HB : Hid (Below w.heap.size w (w.alloc (Obj.cells #[Value.int IntKind.i64 s, Value.slice (some ⟨b, o, none⟩) m c] 37))) := (Below.refl _ _).alloc (Nat.le_refl _) _
  have E := and_one_i64 y u h0 h1
  have H := Lib.hid E
  have hv' : (v : Int) < (m : Int) := by omega
  have q := (HB.out.cell (p := ⟨b, o + v, none⟩) hb).trans hy
  clear E hy
  go_enter Tryd.func64, Tryd.ntmps64
  go_wp2
  go_ret
  exact ⟨ret_bool H.out, HB.out⟩

set_option maxHeartbeats 1000000 in
theorem EdgesOf_s (s : Int) (A : Option Addr) (m c : Nat) (x : Nat → Int) (w : World) (B : Nat) (h : Rd w B A m c x) (hB : B ≤ w.heap.size) (hm : m ≤ 1048576) :
    Calls Tryd.prog 55 #[.agg #[.int .i64 s, .slice A m c]] w fun e w' => ∃ A' c' D, e = .returned (.slice A' D.length c') ∧ lists D = edgesL s m x ∧ OwnD w' w.heap.size w'.heap.size A' c' D ∧ Below w.heap.size w w' := by
  obtain ⟨W, hW⟩ : ∃ W : World, W = (w.alloc (Obj.cells #[Value.int IntKind.i64 s, Value.slice A m c] 37)).alloc (Obj.cells #[] 29) := ⟨_, rfl⟩
  have HB : Hid (Below w.heap.size w W) := by rw [hW]; exact ((Below.refl _ _).alloc (Nat.le_refl _) _).alloc (by simp) _
  have hsz : w.heap.size < W.heap.size := by rw [hW]; simp; omega
  have hz1 : w.heap.size + 1 < W.heap.size := by rw [hW]; simp
  have f0 : W.cell? ⟨w.heap.size, 0, none⟩ = some (.int .i64 s) := by rw [hW]; simp [go_sem]
  have f1 : W.cell? ⟨w.heap.size, 1, none⟩ = some (.slice A m c) := by rw [hW]; simp [go_sem]
  have HD : Hid (OwnD W (w.heap.size + 1) W.heap.size (some ⟨w.heap.size + 1, 0, none⟩) 0 []) := by
    refine OwnD.none_ _ _ _ _ (Nat.le_refl _) hz1 ?_
    rw [hW]
    have := heap_alloc_new (w.alloc (Obj.cells #[Value.int IntKind.i64 s, Value.slice A m c] 37)) (Obj.cells #[] 29)
    simpa using this
  have k1 := h.keep (HB.out.mono hB) (Nat.le_refl _)
  have HW := Lib.hid hW
  clear hW
  go_enter Tryd.func55, Tryd.ntmps55
  go_wp2_with fail
  rw [← HW.out]
  cases hok : okB s m x
  · have hE : Hid (([] : List (List Int)) = edgesL s m x) := by show [] = edgesL s m x; unfold edgesL; rw [hok]; rfl
    have Hok := Lib.hid hok
    clear hok HW
    go_loopw [3, 4] (fun l i wr => i = .int .i64 0 ∧ l = .slice (some ⟨w.heap.size + 1, 0, none⟩) 0 0 ∧ W = wr) (fun _ i _ => 0)
    case atStart => exact ⟨rfl, rfl, rfl⟩
    case round =>
      obtain ⟨rfl, rfl, rfl⟩ := hrel
      by_cases hs : 0 < s
      · go_wp2_with fail
        refine (IsGraph_sany s A m c x W B k1 (by omega) hm).mono ?_
        rw [Hok.out]
        rintro e w1 ⟨rfl, hb1⟩
        have HB1 := Lib.hid (HB.out.trans (hb1.mono (by omega)))
        have HD1 := Lib.hid (HD.out.keepB hb1 (Nat.le_refl _))
        have z1 := hb1.size
        clear hb1
        go_wp2
        go_ret
        exact ⟨_, 0, [], rfl, hE.out, HD1.out.mono (by omega) z1, HB1.out⟩
      · have hs' : s ≤ 0 := by omega
        go_wp2
        go_ret
        exact ⟨_, 0, [], rfl, hE.out, HD.out.mono (by omega) (Nat.le_refl _), HB.out⟩
  · have hOK : OkG s m x := by
      refine Classical.byContradiction fun h => ?_
      rw [okB_no h] at hok; cases hok
    obtain ⟨r, rfl, vg, hx⟩ := hOK
    have hE : Hid (edgesL m m x = edAll x m) := by
      show edgesL m m x = _; unfold edgesL; rw [hok]; rfl
    have Hok := Lib.hid hok
    have hm1 := vg.n1
    have hm7 := vg.n7
    have HK := Lib.hid k1
    obtain ⟨b, o, rfl, lb, hc⟩ := k1.pos (by omega)
    have HX := Lib.hid hx
    have HC := Lib.hid hc
    clear hok h k1 hx HW hc
    go_loopw [3, 4] (fun l i wr => ∃ (v : Nat) (A' : Option Addr) (c' : Nat) (D : List Dsc), v ≤ m ∧ i = .int .i64 v ∧ l = .slice A' D.length c' ∧ Hid (lists D = ed x m v (v + 1)) ∧ Hid (OwnD wr (w.heap.size + 1) wr.heap.size A' c' D) ∧ Hid (Below (w.heap.size + 1) W wr)) (fun _ i _ => m - (intOf i).toNat)
    case atStart => exact ⟨0, _, 0, [], Nat.zero_le _, rfl, rfl, by show lists [] = _; rw [ed_zero]; rfl, HD, Below.refl _ _⟩
    case round =>
      obtain ⟨v, A', c', D, hv, rfl, rfl, hL, hO, hbr⟩ := hrel
      have q0 := up hbr.out f0 (Nat.lt_succ_self _)
      have q1 := up hbr.out f1 (Nat.lt_succ_self _)
      have zr := hbr.out.size
      by_cases hlt : v < m
      · have x0 : 0 ≤ x v := by have := HX.out v hlt; omega
        have x1 : x v < 16777216 := by have := HX.out v hlt; have := vg.lt128 hlt; omega
        have i1 : (v : Int) < (m : Int) := by omega
        go_wp2_with fail
        refine (IsGraph_sany m (some ⟨b, o, none⟩) m c x wr B (HK.out.keep (hbr.out.mono (by omega)) (Nat.le_refl _)) (by omega) hm).mono ?_
        rw [Hok.out]
        rintro e w1 ⟨rfl, hb1⟩
        have HB1 : Hid (Below (w.heap.size + 1) W w1) := hbr.out.trans (hb1.mono (by omega))
        have HD1 := Lib.hid (hO.out.keepB hb1 (Nat.le_refl _))
        have z1 := hb1.size
        have hO1 := Lib.hid (HD1.out.mono (Nat.le_refl _) z1)
        clear hb1 hO hbr q0 q1 HD1
        go_wp2
        go_loopw [3, 5] (fun l i wr => ∃ (u : Nat) (A' : Option Addr) (c' : Nat) (D : List Dsc), v + 1 ≤ u ∧ u ≤ m ∧ i = .int .i64 u ∧ l = .slice A' D.length c' ∧ Hid (lists D = ed x m v u) ∧ Hid (OwnD wr (w.heap.size + 1) wr.heap.size A' c' D) ∧ Hid (Below (w.heap.size + 1) W wr)) (fun _ i _ => m - (intOf i).toNat)
        case atStart => exact ⟨v + 1, A', c', D, Nat.le_refl _, by omega, by go_num, rfl, hL, hO1, HB1⟩
        case round =>
          rename_i wz _ _
          obtain ⟨u, A', c', D, hu1, hu2, rfl, rfl, hL, hO, hbr⟩ := hrel
          have q0 := up hbr.out f0 (Nat.lt_succ_self _)
          have q1 := up hbr.out f1 (Nat.lt_succ_self _)
          have q2 := (hbr.out.cell (p := ⟨b, o + v, none⟩) (by show b < _; omega)).trans (HC.out v hlt)
          have zz := hbr.out.size
          by_cases hlu : u < m
          · have i2 : (u : Int) < (m : Int) := by omega
            cases hbit : (x v).toNat.testBit u
            · have HL : Hid (lists D = ed x m v (u + 1)) := hL.out.trans (ed_no hu1 hbit).symm
              have Hb := Lib.hid hbit
              clear hbit hL
              go_wp2_with fail
              refine (l2Edge_any _ b o m c _ v u (x v) q2 (by omega) hlt x0 x1 (by omega)).mono ?_
              rw [Hb.out]
              rintro e w2 ⟨rfl, hb2⟩
              have H1 := Lib.hid ((hO.out.keepB hb2 (Nat.le_refl _)).mono (Nat.le_refl _) hb2.size)
              have H2 : Hid (Below (w.heap.size + 1) W w2) := hbr.out.trans (hb2.mono (by omega))
              clear hb2 q0 q1 q2 hO hbr
              go_wp2
              go_roundw
              case rel => exact ⟨u + 1, A', c', D, by omega, by omega, by go_num, rfl, HL, H1, H2⟩
              case measure => simp [intOf]; omega
            · have HL : Hid (lists D ++ [[(v : Int), (u : Int)]] = ed x m v (u + 1)) := by show _ = _; rw [hL.out]; exact (ed_yes hu1 hbit).symm
              have hlen : D.length ≤ 21 := by
                have h1 := congrArg List.length hL.out
                rw [lists, List.length_map] at h1
                rw [h1]; exact ed_len hm7 hlt hu1 hu2
              have Hb := Lib.hid hbit
              clear hbit hL
              go_wp2_with fail
              refine (l2Edge_any _ b o m c _ v u (x v) q2 (by omega) hlt x0 x1 (by omega)).mono ?_
              rw [Hb.out]
              rintro e w2 ⟨rfl, hb2⟩
              have H1 := Lib.hid ((hO.out.keepB hb2 (Nat.le_refl _)).mono (Nat.le_refl _) hb2.size)
              have H2 : Hid (Below (w.heap.size + 1) W w2) := hbr.out.trans (hb2.mono (by omega))
              have z2 := hb2.size
              clear hb2 q0 q1 q2 hO hbr
              go_wp2_with (first | (at_builtin; (refine wpList_pushD (w2.alloc (Obj.cells #[Value.int .i64 v, Value.int .i64 u] 3)) rfl _ _ rfl (w.heap.size + 1) (w2.heap.size + 1) A' c' D ((H1.out.alloc _).mono (Nat.le_refl _) (Nat.le_succ _)) (by simp; omega) (by simp) (some ⟨w2.heap.size, 0, none⟩, 2, [(v : Int), (u : Int)]) (pair_own w2 (w.heap.size + 1) (by omega) v u) (H1.out.fresh (Nat.le_refl _)) rfl 1 (w2.heap.size + 1) (by simp) rfl (by omega) ?_; intro g cap w3 hO2 hb2)))
              have H4 := Lib.hid hO2
              have H5 : Hid (Below (w.heap.size + 1) W w3) := (H2.out.alloc (by omega) _).trans hb2
              clear hO2 hb2 H1 H2
              go_wp2
              go_roundw
              case rel => exact ⟨u + 1, _, _, D ++ [(some ⟨w2.heap.size, 0, none⟩, 2, [(v : Int), (u : Int)])], by omega, by omega, by go_num, by rw [List.length_append]; rfl, by show lists (D ++ _) = _; rw [← HL.out]; simp [lists], H4, H5⟩
              case measure => simp [intOf]; omega
          · have hge : (m : Int) ≤ (u : Int) := by omega
            have eu : u = m := by omega
            have HL : Hid (lists D = ed x m (v + 1) (v + 1 + 1)) := by show _ = _; rw [ed_row, ← eu, hL.out, eu]
            have Hb := Lib.hid hbr
            clear hL eu
            go_wp2
            go_roundw
            case rel => exact ⟨v + 1, A', c', D, by omega, by go_num, rfl, HL, hO, hbr⟩
            case measure => simp [intOf]; omega
      · have ev : v = m := by omega
        have hge : (m : Int) ≤ (v : Int) := by omega
        have HL : Hid (lists D = edgesL m m x) := by show _ = _; rw [hL.out, ev, ed_end, hE.out]
        have H2 : Hid (Below w.heap.size w wr) := HB.out.trans (hbr.out.mono (Nat.le_succ _))
        clear hL hbr ev f0 f1
        go_wp2
        go_ret
        exact ⟨A', c', D, rfl, HL.out, hO.out.mono (Nat.le_succ _) (Nat.le_refl _), H2.out⟩
end Go.Proofs.YtncjfgebolikoaaDoor

/-
  Contracts: the optional edges between two graphs, of both programs.
-/
namespace Go.Proofs.YtncjfgebolikoaaDoor
open Go.RowKit

theorem edge_at {D : List Dsc} {s : Int} {m : Nat} {x : Nat → Int} {k : Nat} (hD : lists D = edgesL s m x) (hk : k < D.length) :
    ∃ Ad cd v u, D[k]? = some (Ad, cd, [((v : Nat) : Int), ((u : Nat) : Int)]) ∧ v < u ∧ u < m ∧ OkG s m x := by
  have hok : okB s m x = true := by
    cases h : okB s m x
    · have h0 : lists D = [] := by rw [hD]; unfold edgesL; rw [h]; rfl
      have h1 := congrArg List.length h0
      rw [lists, List.length_map, List.length_nil] at h1
      omega
    · rfl
  have hOK : OkG s m x := by
    refine Classical.byContradiction fun h => ?_
    rw [okB_no h] at hok; cases hok
  unfold edgesL at hD
  rw [if_pos hok] at hD
  have h1 : (D[k]).2.2 ∈ edAll x m := by
    rw [← hD]
    exact List.mem_map.2 ⟨D[k], List.getElem_mem hk, rfl⟩
  unfold edAll at h1
  obtain ⟨p, hp, e⟩ := List.mem_map.1 h1
  have hp2 := mem_pr.1 (List.mem_filter.1 hp).1
  refine ⟨(D[k]).1, (D[k]).2.1, p.1, p.2, ?_, hp2.1, hp2.2, hOK⟩
  rw [List.getElem?_eq_getElem hk, e]
theorem edAll_len {m : Nat} {x : Nat → Int} (hm : m ≤ 7) : (edAll x m).length ≤ 21 := by
  unfold edAll
  rw [List.length_map]
  exact Nat.le_trans (List.length_filter_le _ _) (length_pr_le hm)
theorem edges_len {D : List Dsc} {s : Int} {m : Nat} {x : Nat → Int} (hD : lists D = edgesL s m x) : D.length ≤ 21 := by
  have h1 := congrArg List.length hD
  rw [lists, List.length_map] at h1
  rw [h1]
  unfold edgesL
  split
  · rename_i h
    have hOK : OkG s m x := by
      refine Classical.byContradiction fun h2 => ?_
      rw [okB_no h2] at h; cases h
    obtain ⟨r, rfl, vg, _⟩ := hOK
    exact edAll_len vg.n7
  · simp
/-- What stands in a slice of slices at a place. -/
theorem OwnD.pair {w : World} {lo hi c k : Nat} {A Ad : Option Addr} {cd : Nat} {v u : Int} {D : List Dsc} (h : OwnD w lo hi A c D) (hk : D[k]? = some (Ad, cd, [v, u])) :
    ∃ g gd, A = some ⟨g, 0, none⟩ ∧ Ad = some ⟨gd, 0, none⟩ ∧ w.cell? ⟨g, k, none⟩ = some (.slice Ad 2 cd) ∧ w.cell? ⟨gd, 0, none⟩ = some (.int .i64 v) ∧ w.cell? ⟨gd, 1, none⟩ = some (.int .i64 u) := by
  obtain ⟨hlt, he⟩ := List.getElem?_eq_some_iff.1 hk
  obtain ⟨g, e1, _, _, _, h1, _⟩ := h.1.at_ (by omega)
  obtain ⟨gd, e2, _, _, _, h2, _⟩ := (h.2.1 (Ad, cd, [v, u]) (List.mem_of_getElem? hk)).at_ (by show 0 < 2; omega)
  refine ⟨g, gd, e1, e2, ?_, h2 0 (by show 0 < 2 * 1; omega), h2 1 (by show 1 < 2 * 1; omega)⟩
  rw [h1 k (by omega)]
  unfold dvs
  simp [List.getD, hk, dv]

end Go.Proofs.YtncjfgebolikoaaDoor

/-
  Contract: all pairs of n vertices.
-/
namespace Go.Proofs.YtncjfgebolikoaaDoor
open Go.RowKit

end Go.Proofs.YtncjfgebolikoaaDoor

/-
  Plain lists of edits, and pushes onto slices of edits.
-/
namespace Go.Proofs.YtncjfgebolikoaaDoor
open Go.RowKit

end Go.Proofs.YtncjfgebolikoaaDoor

/-
  Contracts: a set's list, of both programs.
-/
namespace Go.Proofs.YtncjfgebolikoaaDoor
open Go.RowKit

end Go.Proofs.YtncjfgebolikoaaDoor

/-
  Contracts: is a set a clique? The program's test; the closure that looks for a simplicial vertex; the search for the first.
-/
namespace Go.Proofs.YtncjfgebolikoaaDoor
open Go.RowKit

end Go.Proofs.YtncjfgebolikoaaDoor

/-
  Contracts: is a set a clique? The reference's tests; is a vertex simplicial?
-/
namespace Go.Proofs.YtncjfgebolikoaaDoor
open Go.RowKit

end Go.Proofs.YtncjfgebolikoaaDoor
