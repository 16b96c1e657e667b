/-
-/
import Derived.Test.YtdpkbfiggbcclaaGreatRows
import Derived.Test.YtdpkbfiggbcclaaGreatQmGA
import Derived.Deep.RegionHeld3
import Derived.Deep.QuietTactic
import Derived.BigQuiet
/-
 Words for memory: a slice of slices of integers that the call owns, or that it only reads.
-/
namespace Go.Proofs.YtdpkbfiggbcclaaGreat
open Go.RowKit
set_option maxHeartbeats 1000000
abbrev Dsc := Option Addr × Nat × List Int
def dv (d : Dsc) : Value := .slice d.1 d.2.2.length d.2.1
def dvs (D : List Dsc) : Nat → Value := fun j => dv (D.getD j (none, 0, []))
def ii (l : List Int) : Nat → Value := fun i => .int .i64 (l.getD i 0)
def lists (D : List Dsc) : List (List Int) := D.map (·.2.2)
def Apart (D : List Dsc) : Prop := D.Pairwise fun d e => ∀ a, d.1 = some a → e.1 ≠ some a
def OwnD (w : World) (lo hi : Nat) (A : Option Addr) (c : Nat) (D : List Dsc) : Prop :=
 Own w lo hi 22 1 A D.length c (dvs D) ∧ (∀ d ∈ D, Own w lo hi 3 1 d.1 d.2.2.length d.2.1 (ii d.2.2)) ∧ Apart D
def RdD (w : World) (B : Nat) (A : Option Addr) (c : Nat) (D : List Dsc) : Prop :=
 RdV w B A D.length c (dvs D) ∧ ∀ d ∈ D, Rd w B d.1 d.2.2.length d.2.1 (fun i => d.2.2.getD i 0)
section
variable {w w' : World} {lo hi lo' hi' B B' c : Nat} {A : Option Addr} {D : List Dsc}
theorem OwnD.mono (h : OwnD w lo hi A c D) (h1 : lo' ≤ lo) (h2 : hi ≤ hi') : OwnD w lo' hi' A c D := ⟨h.1.mono h1 h2, fun d hd => (h.2.1 d hd).mono h1 h2, h.2.2⟩
theorem OwnD.keep {a b : Nat} (h : OwnD w lo hi A c D) (hf : Fr a b w w') (hab : hi ≤ a ∨ b ≤ lo) : OwnD w' lo hi A c D := ⟨h.1.keep hf hab, fun d hd => (h.2.1 d hd).keep hf hab, h.2.2⟩
theorem OwnD.keepB (h : OwnD w lo hi A c D) (hf : Below B w w') (hB : hi ≤ B) : OwnD w' lo hi A c D := ⟨h.1.keepB hf hB, fun d hd => (h.2.1 d hd).keepB hf hB, h.2.2⟩
theorem OwnD.alloc (h : OwnD w lo hi A c D) (o : Obj) : OwnD (w.alloc o) lo hi A c D := ⟨h.1.alloc o, fun d hd => (h.2.1 d hd).alloc o, h.2.2⟩
theorem OwnD.drew (h : OwnD w lo hi A c D) : OwnD w.drew lo hi A c D := h
theorem OwnD.rdD (h : OwnD w lo hi A c D) : RdD w hi A c D := ⟨h.1.rdV, fun d hd => (h.2.1 d hd).rd⟩
theorem RdD.keep (h : RdD w B A c D) (hb : Below B w w') (hB : B ≤ B') : RdD w' B' A c D := ⟨h.1.keep hb hB, fun d hd => (h.2 d hd).keep hb hB⟩
theorem OwnD.none_ (w : World) (lo hi : Nat) (g : Nat) (h1 : lo ≤ g) (h2 : g < hi) (hg : w.heap[g]? = some (.cells #[] 22 (0, 0))) : OwnD w lo hi (some ⟨g, 0, none⟩) 0 [] :=
 ⟨.inr ⟨g, #[], rfl, h1, h2, hg, nr_, by unfold maxLen; omega, rfl, fun j hj => absurd hj (by simp)⟩, (fun d hd => by cases hd), List.Pairwise.nil⟩
theorem Own.only {e : TypeId} {size n : Nat} {x : Nat → Value} (h : Own w lo hi e size A n c x) (hn : 0 < n) : ∃ g, A = some ⟨g, 0, none⟩ ∧ lo ≤ g ∧ g < hi ∧ Own w g (g + 1) e size A n c x := by
 rcases h with h | ⟨g, cur, k1, k2, k3, r⟩
 ·omega
 ·exact ⟨g, k1, k2, k3, .inr ⟨g, cur, k1, nr_, Nat.lt_succ_self _, r⟩⟩
theorem Own.types {e e' : TypeId} {s1 s2 n1 n2 c1 c2 lo1 hi1 lo2 hi2 : Nat} {A1 A2 : Option Addr} {x y : Nat → Value} (h : Own w lo1 hi1 e s1 A1 n1 c1 x) (k : Own w lo2 hi2 e' s2 A2 n2 c2 y) (hne : e ≠ e') {g : Nat} (h1 : A1 = some ⟨g, 0, none⟩) : A2 ≠ some ⟨g, 0, none⟩ := by
 rintro rfl;subst h1;rcases h with ⟨h, _⟩ | ⟨g1, cur1, k1, _, _, r1, _⟩
 ·cases h
 rcases k with ⟨h, _⟩ | ⟨g2, cur2, k2, _, _, r2, _⟩
 ·cases h
 simp only [Option.some.injEq, Addr.mk.injEq, and_true] at k1 k2;subst k1 k2;rw [r1] at r2;simp only [Option.some.injEq, Obj.cells.injEq] at r2;exact hne r2.2.1
theorem Own.at_block {e : TypeId} {size n : Nat} {x : Nat → Value} (h : Own w lo hi e size A n c x) : A = none ∨ ∃ g, A = some ⟨g, 0, none⟩ ∧ lo ≤ g ∧ g < hi := by
 rcases h with ⟨h, _⟩ | ⟨g, cur, k1, k2, k3, _⟩
 ·exact .inl h
 ·exact .inr ⟨g, k1, k2, k3⟩
theorem Own.keep1 {e : TypeId} {size n g : Nat} {x : Nat → Value} (h : Own w lo hi e size A n c x) (hf : Fr g (g + 1) w w') (hne : A ≠ some ⟨g, 0, none⟩) : Own w' lo hi e size A n c x := by
 rcases h with h | ⟨g1, cur, k1, k2, k3, k4, r⟩
 ·exact .inl h
 ·refine .inr ⟨g1, cur, k1, k2, k3, (hf.block g1 (Array.getElem?_eq_some_iff.1 k4).1 ?_).trans k4, r⟩;have : g1 ≠ g := fun e => hne (by rw [k1, e])
  omega
theorem dvs_at {D : List Dsc} {j : Nat} (h : j < D.length) : ∃ d, D[j]? = some d ∧ d ∈ D ∧ dvs D j = dv d := by
 refine ⟨D[j], List.getElem?_eq_getElem h, List.getElem_mem h, ?_⟩;unfold dvs;simp [List.getD, List.getElem?_eq_getElem h]
theorem OwnD.push {D : List Dsc} {d : Dsc} {w w1 : World} {A : Option Addr} {c g cap : Nat} (h : ∀ d ∈ D, Own w lo hi 3 1 d.1 d.2.2.length d.2.1 (ii d.2.2)) (ha : Apart D) (hd : Own w lo hi 3 1 d.1 d.2.2.length d.2.1 (ii d.2.2)) (hnew : ∀ e ∈ D, ∀ a, e.1 = some a → d.1 ≠ some a)
 (hp : Pushed w w1 lo 22 1 A D.length c (dvs (D ++ [d])) g cap) (hown : Own w lo hi 22 1 A D.length c (dvs D)) (hhi : hi ≤ w.heap.size) :
 OwnD w1 lo w1.heap.size (some ⟨g, 0, none⟩) cap (D ++ [d]) := by
 have hs := hp.grown.size;have keep : ∀ e : Dsc, Own w lo hi 3 1 e.1 e.2.2.length e.2.1 (ii e.2.2) → Own w1 lo w1.heap.size 3 1 e.1 e.2.2.length e.2.1 (ii e.2.2) := by
  intro e he;have hne : ∀ g', e.1 = some ⟨g', 0, none⟩ → A ≠ some ⟨g', 0, none⟩ := fun g' hg' => he.types hown (by decide) hg'
  rcases he with h | ⟨g1, cur, k1, k2, k3, k4, r⟩
  ·exact .inl h
  ·refine .inr ⟨g1, cur, k1, k2, by omega, (hp.grown.block g1 (Array.getElem?_eq_some_iff.1 k4).1 ?_).trans k4, r⟩;intro heq;rcases hown with ⟨rfl, _⟩ | ⟨g2, cur2, rfl, _⟩
   ·simp [Value.ownBlock] at heq
   ·simp [Value.ownBlock] at heq;exact hne g1 k1 (by rw [heq])
 refine ⟨by rw [List.length_append]; exact hp.own, fun e he => ?_, ?_⟩
 ·rw [List.mem_append, List.mem_singleton] at he;rcases he with he | rfl
  ·exact keep e (h e he)
  ·exact keep e hd
 ·refine List.pairwise_append.2 ⟨ha, List.pairwise_singleton _ _, ?_⟩;intro e he f hf a h1;rw [List.mem_singleton] at hf;subst hf;exact hnew e he a h1
end
end Go.Proofs.YtdpkbfiggbcclaaGreat
/-
 Contracts of the law's helpers on slices of slices of integers.
-/
namespace Go.Proofs.YtdpkbfiggbcclaaGreat
open Go.RowKit
def tot (D : List Dsc) : Nat := (D.map fun d => d.2.2.length).sum
theorem tot_snoc (D : List Dsc) (d : Dsc) : tot (D ++ [d]) = tot D + d.2.2.length := by simp [tot]
theorem tot_cons (d : Dsc) (D : List Dsc) : tot (d :: D) = d.2.2.length + tot D := by simp [tot]
theorem take_at {D : List Dsc} {k : Nat} {d : Dsc} (h : D[k]? = some d) : D.take (k + 1) = D.take k ++ [d] := by
 rw [List.take_add_one, h]; rfl
theorem tot_take_le (D : List Dsc) (k : Nat) : tot (D.take k) ≤ tot D := by
 conv => rhs; rw [← List.take_append_drop k D]
 unfold tot;rw [List.map_append, List.sum_append];exact Nat.le_add_right _ _
theorem tot_lists {D E : List Dsc} (h : lists D = lists E) : tot D = tot E := by
 have : ∀ D : List Dsc, tot D = ((lists D).map List.length).sum := fun D => by simp [tot, lists, Function.comp_def]
 rw [this, this, h]
theorem len_lists {D E : List Dsc} (h : lists D = lists E) : D.length = E.length := by
 have := congrArg List.length h;simpa [lists] using this
theorem lists_at {D E : List Dsc} (h : lists D = lists E) {k : Nat} {d e : Dsc} (hd : D[k]? = some d) (he : E[k]? = some e) : d.2.2 = e.2.2 := by
 have := congrArg (fun l => l[k]?) h;simpa [lists, hd, he] using this
theorem eqIntSS_yes (A1 A2 : Option Addr) (c1 c2 : Nat) (D E : List Dsc) (w : World) (B1 B2 : Nat) (h1 : RdD w B1 A1 c1 D) (h2 : RdD w B2 A2 c2 E) (hB1 : B1 ≤ w.heap.size) (hB2 : B2 ≤ w.heap.size) (hl : lists D = lists E) (hn : D.length ≤ 1073741824) (ht : tot D ≤ 1073741824) :
 Calls Tryz.prog 138 #[.slice A1 D.length c1, .slice A2 E.length c2] w fun e w' => e = .returned (.bool true) ∧ Below w.heap.size w w' := by
 have hle := len_lists hl;rw [← hle];obtain ⟨n, hnn⟩ : ∃ n, n = D.length := ⟨_, rfl⟩;rw [← hnn] at hn hle ⊢;have Hn := hh_ hnn;have Hl := hh_ hle;have HL := hh_ hl;clear hnn hle hl;go_enter Tryz.func138, Tryz.ntmps138;go_wp2;go_loopw [5] (fun i wr => ∃ k : Nat, k ≤ n ∧ i = .int .i64 k ∧ Below w.heap.size w wr) (fun i _ => n - (intOf i).toNat);case atStart => exact ⟨0, Nat.zero_le _, rfl, br_⟩
 case round =>
  obtain ⟨k, hk, rfl, hbr⟩ := hrel;by_cases hlt : k < n
  ·obtain ⟨d, hd, hm, hdv⟩ := dvs_at (D := D) (j := k) (by rw [← Hn.out]; exact hlt);obtain ⟨d', hd', hm', hdv'⟩ := dvs_at (D := E) (j := k) (by rw [← Hl.out]; exact hlt);have r1 := (h1.2 d hm).keep (hbr.drew.mono hB1) nr_;have r2 := (h2.2 d' hm').keep (hbr.drew.mono hB2) nr_;have hdd := lists_at HL.out hd hd';obtain ⟨b1, o1, rfl, l1, c1'⟩ := h1.1.2 (by rw [← Hn.out]; omega);obtain ⟨b2, o2, rfl, l2, c2'⟩ := h2.1.2 (by rw [← Hl.out]; omega);have f1 := (hbr.cell (p := ⟨b1, o1 + k, none⟩) (by show b1 < _; omega)).trans (c1' k (by rw [← Hn.out]; exact hlt));have f2 := (hbr.cell (p := ⟨b2, o2 + k, none⟩) (by show b2 < _; omega)).trans (c2' k (by rw [← Hl.out]; exact hlt));rw [hdv] at f1;rw [hdv'] at f2;have hm7 : d.2.2.length ≤ 1073741824 := by
    have h3 := tot_take_le D (k + 1);rw [take_at hd, tot_snoc] at h3;omega
   obtain ⟨da, dc, dl⟩ := d;obtain ⟨ea, ec, el⟩ := d';simp only [dv] at f1 f2 hdd r1 r2 hm7;subst hdd;have i1 : (k : Int) < n := by omega
   have hz := hbr.size;have R1 := hh_ r1;have R2 := hh_ r2;clear c1' c2' h1 h2 hd hd' hm hm' hdv hdv' r1 r2;obtain ⟨m, hm2⟩ : ∃ m, m = dl.length := ⟨_, rfl⟩;rw [← hm2] at f1 f2 hm7 R1 R2;clear hm2;go_wp2_with fail
   go_region_held3 (fun z => z.cell? ⟨b1, o1 + k, none⟩ = some (.slice da m dc) ∧ z.cell? ⟨b2, o2 + k, none⟩ = some (.slice ea m ec))
    (first | (refine ⟨?_, ?_⟩ <;> assumption) | (refine ⟨?_, ?_⟩ <;> (refine (hb.cell (by first | (show b1 < wr.heap.size; omega) | (show b2 < wr.heap.size; omega))).trans ?_; assumption)))
    ((go_at_call 31; (refine (eqIntS_yes _ _ _ _ _ _ _ _ _ R1.out R2.out (Nat.le_trans hB1 hz) (Nat.le_trans hB2 hz) (by omega)).mono ?_); rintro e w1 ⟨rfl, hb⟩))
   have HB := hh_ (hbr.drew.trans (hb.mono hbr.size));clear f1 f2 hb hbr;go_wp2;go_roundw;case rel => exact ⟨k + 1, by omega, by go_num, HB.out⟩
   case measure => simp [intOf]; omega
  ·have hge : (n : Int) ≤ k := by omega
   have HB := hh_ hbr;clear hbr h1 h2;go_wp2;go_ret;exact ⟨rfl, HB.out⟩
def mkl (k : Int) (l : List Int) : List Int := (List.range l.length).map fun (i : Nat) => k + (i : Int)
def mkD : Int → List Dsc → List Dsc
 | _, [] => []
 | k, d :: D => (d.1, d.2.1, mkl k d.2.2) :: mkD (k + d.2.2.length) D
theorem length_mkl (k : Int) (l : List Int) : (mkl k l).length = l.length := by simp [mkl]
theorem mkD_snoc (k : Int) (D : List Dsc) (d : Dsc) : mkD k (D ++ [d]) = mkD k D ++ [(d.1, d.2.1, mkl (k + tot D) d.2.2)] := by
 induction D generalizing k with
 | nil => simp [mkD, tot]
 | cons e D ih =>
   have he : k + (e.2.2.length : Int) + (tot D : Int) = k + ((e.2.2.length + tot D : Nat) : Int) := by omega
   simp only [List.cons_append, mkD, ih, tot_cons, he]
theorem length_mkD (k : Int) (D : List Dsc) : (mkD k D).length = D.length := by
 induction D generalizing k with
 | nil => rfl
 | cons e D ih => simp [mkD, ih]
theorem ii_mkl (k : Int) (l : List Int) : ∀ i, i < l.length * 1 → mks k (ii l) l.length i = ii (mkl k l) i := by
 intro i hi;unfold mks ii mkl;rw [if_pos (by omega)];simp [List.getD, List.getElem?_map, List.getElem?_range (show i < l.length by omega)]
theorem Own.cage {w : World} {lo hi : Nat} {e : TypeId} {size n c : Nat} {A : Option Addr} {x : Nat → Value} (h : Own w lo hi e size A n c x) (_hhi : hi ≤ w.heap.size) : ∃ g, Own w g (g + 1) e size A n c x ∧ (A = some ⟨g, 0, none⟩ ∧ lo ≤ g ∧ g < hi ∨ A = none ∧ g = w.heap.size) := by
 rcases h with h | ⟨g, cur, k1, k2, k3, r⟩
 ·exact ⟨w.heap.size, .inl h, .inr ⟨h.1, rfl⟩⟩
 ·exact ⟨g, .inr ⟨g, cur, k1, nr_, Nat.lt_succ_self _, r⟩, .inl ⟨k1, k2, k3⟩⟩
theorem Own.uncaged {w w' : World} {lo hi : Nat} {e' : TypeId} {s' n' c' g : Nat} {A A' : Option Addr} {y : Nat → Value} (h : Own w lo hi e' s' A' n' c' y) (hf : Fr g (g + 1) w w')
 (hg : A = some ⟨g, 0, none⟩ ∧ lo ≤ g ∧ g < hi ∨ A = none ∧ g = w.heap.size) (hne : ∀ a, A = some a → A' ≠ some a) : Own w' lo hi e' s' A' n' c' y := by
 rcases hg with ⟨hg, _⟩ | ⟨_, hg⟩
 ·exact h.keep1 hf (hne _ hg)
 ·refine h.keep1 hf ?_;rcases h with ⟨h, _⟩ | ⟨g1, cur, k1, k2, k3, k4, r⟩
  ·rw [h]; simp
  ·have := (Array.getElem?_eq_some_iff.1 k4).1;rw [k1];simp only [ne_eq, Option.some.injEq, Addr.mk.injEq, and_true];omega
theorem Fr.uncaged {w w' : World} {lo hi g : Nat} {A : Option Addr} (hf : Fr g (g + 1) w w') (hg : A = some ⟨g, 0, none⟩ ∧ lo ≤ g ∧ g < hi ∨ A = none ∧ g = w.heap.size) : Fr lo hi w w' := by
 rcases hg with ⟨_, h1, h2⟩ | ⟨_, hg⟩
 ·exact hf.mono h1 h2
 ·exact ⟨hf.os, hf.tape, hf.output, hf.size, fun k hk _ => hf.block k hk (by omega)⟩
theorem heldIntSS_yes (A : Option Addr) (c : Nat) (D : List Dsc) (k : Int) (w : World) (B : Nat) (h : RdD w B A c (mkD k D)) (hn : D.length ≤ 1073741824) (ht : tot D ≤ 1073741824) (hk0 : 0 ≤ k) (hk1 : k ≤ 1099511627776) :
 Calls Tryz.prog 144 #[.slice A D.length c, .int .i64 k] w fun e w' => e = .returned (.int .i64 (k + tot D)) ∧ w = w' := by
 obtain ⟨n, hnn⟩ : ∃ n, n = D.length := ⟨_, rfl⟩;rw [← hnn] at hn ⊢;have Hn := hh_ hnn;clear hnn;go_enter Tryz.func144, Tryz.ntmps144;go_wp2;go_loop [1, 5] (fun kk i => ∃ j : Nat, j ≤ n ∧ i = .int .i64 j ∧ kk = .int .i64 (k + tot (D.take j))) (fun _ i => n - (intOf i).toNat);case atStart => exact ⟨0, Nat.zero_le _, rfl, by simp [tot]⟩
 case round =>
  obtain ⟨j, hj, rfl, rfl⟩ := hrel;by_cases hlt : j < n
  ·have hjD : j < D.length := by rw [← Hn.out]; exact hlt
   obtain ⟨d, hd⟩ : ∃ d, D[j]? = some d := ⟨_, List.getElem?_eq_getElem hjD⟩;have htake := take_at hd;have hmk : mkD k D = mkD k (D.take j) ++ (d.1, d.2.1, mkl (k + tot (D.take j)) d.2.2) :: (mkD k D).drop (j + 1) := by
    have h1 : ∀ (D1 D2 : List Dsc) (k : Int), mkD k (D1 ++ D2) = mkD k D1 ++ mkD (k + tot D1) D2 := by
     intro D1;induction D1 with
     | nil => intro D2 k; simp [mkD, tot]
     | cons e D1 ih =>
       intro D2 k;have he : k + (e.2.2.length : Int) + (tot D1 : Int) = k + ((e.2.2.length + tot D1 : Nat) : Int) := by omega
       simp only [List.cons_append, mkD, ih, tot_cons, he]
    have h2 : mkD k D = mkD k (D.take (j + 1)) ++ mkD (k + tot (D.take (j + 1))) (D.drop (j + 1)) := by
     conv => lhs; rw [← List.take_append_drop (j + 1) D]
     rw [h1]
    have h3 : (mkD k (D.take (j + 1))).length = j + 1 := by rw [length_mkD, List.length_take]; omega
    have h4 : (mkD k D).drop (j + 1) = mkD (k + tot (D.take (j + 1))) (D.drop (j + 1)) := by
     rw [h2, List.drop_append, h3, Nat.sub_self, List.drop_zero, List.drop_eq_nil_of_le (by omega), List.nil_append]
    rw [h4];conv => lhs; rw [h2, htake, mkD_snoc, List.append_assoc, List.singleton_append]
    rw [htake]
   have hPl : (mkD k (D.take j)).length = j := by rw [length_mkD, List.length_take]; omega
   have r1 := h.2 (d.1, d.2.1, mkl (k + tot (D.take j)) d.2.2) (by rw [hmk]; simp);have htl := tot_take_le D (j + 1);rw [htake, tot_snoc] at htl;obtain ⟨b, o, rfl, lb, hc⟩ := h.1.2 (by rw [length_mkD, ← Hn.out]; omega);have f1 := hc j (by rw [length_mkD, ← Hn.out]; exact hlt);have hdvj : dvs (mkD k D) j = .slice d.1 d.2.2.length d.2.1 := by
    unfold dvs;rw [hmk];simp [List.getD, hPl, dv, length_mkl]
   rw [hdvj] at f1;obtain ⟨kk, hkk⟩ : ∃ kk, kk = k + tot (D.take j) := ⟨_, rfl⟩;rw [← hkk] at r1 ⊢;have hk2 : k + tot (D.take (j + 1)) = kk + d.2.2.length := by rw [htake, tot_snoc, hkk]; push_cast; omega
   have k0 : 0 ≤ kk := by omega
   have k1 : kk ≤ 2199023255552 := by omega
   have hm7 : d.2.2.length ≤ 1073741824 := by omega
   have r2 : Rd w B d.1 d.2.2.length d.2.1 (fun i => kk + i) := by
    simp only [length_mkl] at r1;refine r1.congr (fun i hi => ?_);unfold mkl;simp [List.getD, List.getElem?_range hi]
   obtain ⟨da, dc, dl⟩ := d;simp only at f1 hm7 hk2 r2;obtain ⟨m, hm2⟩ : ∃ m, m = dl.length := ⟨_, rfl⟩;rw [← hm2] at f1 hm7 hk2 r2;have HK := hh_ hk2;have HR := hh_ r2;clear hc hd htake hmk hPl r1 htl hdvj hk2 r2 hm2 hjD h ht hkk;go_wp2_with fail
   refine (heldIntS_yes da m dc kk w B HR.out (by omega) k0 (by omega)).mono ?_;rintro e w' ⟨rfl, rfl⟩;have hnn2 : 0 ≤ kk + m := by omega
   go_wp2;go_round;case rel => exact ⟨j + 1, by omega, by go_num, congrArg (Value.int .i64) HK.symm⟩
   case measure => simp [intOf]; omega
  ·obtain rfl : j = n := by omega
   have e2 : tot (D.take j) = tot D := by rw [List.take_of_length_le (by rw [← Hn.out]; exact nr_)]
   rw [e2];clear h e2;go_wp2;go_ret;exact ⟨rfl, rfl⟩
end Go.Proofs.YtdpkbfiggbcclaaGreat
/-
 append of all elements of a slice of integers that is only read onto a slice of integers of the call's own.
-/
namespace Go.Proofs.YtdpkbfiggbcclaaGreat
open Go.RowKit
def thenI (n : Nat) (x : Nat → Value) (y : Nat → Int) : Nat → Value := fun j => if j < n then x j else .int .i64 (y (j - n))
theorem run_appendI (w : World) (ty : TypeId) {lo hi B n c m c2 : Nat} {A A2 : Option Addr} {x : Nat → Value} {y : Nat → Int} (h : Own w lo hi 3 1 A n c x) (hr : Rd w B A2 m c2 y) (hlo : lo ≤ w.heap.size) (hn : n ≤ 1073741824) (hm : m ≤ 1073741824) :
 ∃ A' c' w', (Builtin.append_ #[22, 22] ty #[.slice A n c, .slice A2 m c2]).run Tryz.prog w = .ok (.slice A' (n + m) c') w' ∧ Own w' lo w'.heap.size 3 1 A' (n + m) c' (thenI n x y) ∧ Below lo w w' ∧ ((Value.slice A' (n + m) c').ownBlock = (Value.slice A n c).ownBlock ∨ (Value.slice A' (n + m) c').ownBlock = some w.heap.size) ∧ w.grownBy w' (Value.slice A n c).ownBlock := by
 obtain ⟨i, hi', hzz⟩ := Option.map_eq_some_iff.1 info_int;simp only [Prod.mk.injEq] at hzz;obtain ⟨hz, hsize, hbytes⟩ := hzz;have main : ∀ v' w', w'.ownsRow lo 3 1 v' (n + m) ((List.range (n * 1)).map x ++ (List.range m).map fun k => .int .i64 (y k)) → w.grownBy w' (Value.slice A n c).ownBlock →
  ∃ A' c', v' = .slice A' (n + m) c' ∧ Own w' lo w'.heap.size 3 1 A' (n + m) c' (thenI n x y) ∧ Below lo w w' := by
  intro v' w' hrow hg;obtain ⟨A', c', rfl⟩ := row_form hrow;refine ⟨A', c', rfl, Own.of_row hrow (fun j hj => ?_), br_.grown hg hlo (fun k hk => (h.block k hk).1)⟩;rw [List.getElem?_append];simp only [List.length_map, List.length_range, Nat.mul_one];unfold thenI;by_cases hj2 : j < n
  ·simp [hj2]
  ·rw [if_neg hj2, if_neg hj2, List.getElem?_map, List.getElem?_range (by omega)];rfl
 rcases A2 with _ | ad
 ·have hm0 : m = 0 := by
   rcases Nat.eq_zero_or_pos m with h0 | h0
   ·exact h0
   ·obtain ⟨b, o, he, _⟩ := hr.2 h0;cases he
  subst hm0;refine ⟨A, c, w, ?_, ?_, br_, .inl rfl, World.grownBy.refl w _⟩
  ·rcases h with ⟨rfl, rfl, rfl⟩ | ⟨g, cur, rfl, _, _, _, hnc, _⟩
   ·simp [Builtin.append_, run_underlying Tryz.underlying22, sizeOf, typeInfo, hi', Builtin.lenOf, Builtin.firstCells]
   ·simp [Builtin.append_, run_underlying Tryz.underlying22, sizeOf, typeInfo, hi', Builtin.lenOf, Builtin.firstCells, hnc, storeCells]
  ·exact (h.lt.mono nr_ (Nat.min_le_right _ _)).congr (fun j hj => by unfold thenI; rw [if_pos (by omega)])
 ·have hcells : ∀ (j : Nat) (u : Value), ((List.range m).map fun k => Value.int .i64 (y k))[j]? = some u → w.cell? (ad.add j) = some u := by
   intro j u hu;have hj : j < m := by
    have := (List.getElem?_eq_some_iff.1 hu).1;simpa using this
   obtain ⟨b, o, he, _, hc⟩ := hr.2 (by omega);simp only [Option.some.injEq] at he;subst he;have hadd : (⟨b, o, none⟩ : Addr).add j = ⟨b, o + j, none⟩ := by unfold Addr.add; split <;> simp_all
   rw [hadd, hc j hj];simpa [hj] using hu
  obtain ⟨v', w', hrun, h2, h3, _, h5⟩ := run_append_own_at (P := Tryz.prog) w lo 22 ty 3 i _ 1 8 Tryz.underlying22 hi' hz hsize hbytes rfl (by omega) _ n _ h.row ad m c2 _ (by simp) hcells (by
   intro u hu;obtain ⟨j, _, rfl⟩ := List.mem_map.1 hu;rfl) (by unfold maxLen; omega) (by omega) hlo
  obtain ⟨A', c', rfl, hO, hB⟩ := main v' w' h2 h3;exact ⟨A', c', w', hrun, hO, hB, h5, h3⟩
section
variable (w : World) {ops : Array Oper} {rest : List Oper} {o : Oper} {a : Act} {K : Act → World → Prop} {Q : Exit → Act → World → Prop} {E : Prop}
 {lo hi B n c m c2 : Nat} {A A2 : Option Addr} {x : Nat → Value} {y : Nat → Int}
theorem wp_appendI (s z : Operand)
 (ho : o.op = .call { callee := .builtin .append, args := #[s, z], argTypes := #[22, 22] })
 (hs : a.eval s = .slice A n c) (h : Own w lo hi 3 1 A n c x) (hz : a.eval z = .slice A2 m c2) (hr : Rd w B A2 m c2 y) (hlo : lo ≤ w.heap.size) (hn : n ≤ 1073741824) (hm : m ≤ 1073741824)
 (hK : ∀ A' c' w', Own w' lo w'.heap.size 3 1 A' (n + m) c' (thenI n x y) → Below lo w w' → K (a.put o.dst (.slice A' (n + m) c')) w') : o.wp Tryz.prog a w K Q := by
 obtain ⟨A', c', w', hrun, h2, h3, _⟩ := run_appendI w o.type h hr hlo hn hm;unfold Oper.wp execOp;simp only [ho, resolve, invoke, builtin, Sem.run_bind, Sem.run_pure, Result.andThen_ok, List.map_toArray, List.map_cons, List.map_nil, hs, hz, hrun];exact hK _ _ _ h2 h3
theorem wpList_appendI (hgd : o.guard = none) (s z : Operand)
 (ho : o.op = .call { callee := .builtin .append, args := #[s, z], argTypes := #[22, 22] })
 (hs : a.eval s = .slice A n c) (h : Own w lo hi 3 1 A n c x) (hz : a.eval z = .slice A2 m c2) (hr : Rd w B A2 m c2 y) (hlo : lo ≤ w.heap.size) (hn : n ≤ 1073741824) (hm : m ≤ 1073741824)
 (hK : ∀ A' c' w', Own w' lo w'.heap.size 3 1 A' (n + m) c' (thenI n x y) → Below lo w w' → wpList Tryz.prog ops Q rest (a.put o.dst (.slice A' (n + m) c')) w') : wpList Tryz.prog ops Q (o :: rest) a w :=
 wpList_plain hgd fun _ hK2 => wp_appendI w s z ho hs h hz hr hlo hn hm fun A' c' w' h2 h3 => hK2 _ _ (hK A' c' w' h2 h3)
theorem step_appendI (hgd : o.guard = none) (s z : Operand)
 (ho : o.op = .call { callee := .builtin .append, args := #[s, z], argTypes := #[22, 22] })
 (hs : a.eval s = .slice A n c) (h : Own w lo hi 3 1 A n c x) (hz : a.eval z = .slice A2 m c2) (hr : Rd w B A2 m c2 y) (hlo : lo ≤ w.heap.size) (hn : n ≤ 1073741824) (hm : m ≤ 1073741824)
 (hK : ∀ A' c' w', Own w' lo w'.heap.size 3 1 A' (n + m) c' (thenI n x y) → Below lo w w' → K (a.put o.dst (.slice A' (n + m) c')) w') :
 if Region.wanted o (yielded ops a.tmps) = true then Oper.wp Tryz.prog o a w K Q else E := by
 have hw : Region.wanted o (yielded ops a.tmps) = true := by simp [Region.wanted, hgd]
 rw [if_pos hw];exact wp_appendI w s z ho hs h hz hr hlo hn hm hK
end
end Go.Proofs.YtdpkbfiggbcclaaGreat
/-
 append of all elements of a slice of slices that is only read onto a slice of slices of the call's own.
-/
namespace Go.Proofs.YtdpkbfiggbcclaaGreat
open Go.RowKit
section
variable (w : World) {ops : Array Oper} {rest : List Oper} {o : Oper} {a : Act} {K : Act → World → Prop} {Q : Exit → Act → World → Prop} {E : Prop}
 {lo hi B n c m c2 : Nat} {A A2 : Option Addr} {x y : Nat → Value}
end
end Go.Proofs.YtdpkbfiggbcclaaGreat
/-
 Contracts: a copy of a graph in new memory, of both programs; two bits turned.
-/
namespace Go.Proofs.YtdpkbfiggbcclaaGreat
open Go.RowKit
theorem l2Copy_any (sz : Int) (A : Option Addr) (m c : Nat) (x : Nat → Int) (w : World) (B : Nat) (h : Rd w B A m c x) (hB : B ≤ w.heap.size) (hm : m ≤ 1048576) :
 Calls Tryz.prog 96 #[.agg #[.int .i64 sz, .slice A m c]] w fun e w' => ∃ A' c', e = .returned (.agg #[.int .i64 sz, .slice A' m c']) ∧ Own w' (w.heap.size + 2) w'.heap.size 3 1 A' m c' (fun j => .int .i64 (x j)) ∧ Below w.heap.size w w' := by
 obtain ⟨W, hW⟩ : ∃ W, W = ((w.alloc (Obj.cells #[.int .i64 sz, .slice A m c] 28)).alloc (Obj.cells #[.int .i64 0, .slice none 0 0] 28)) := ⟨_, rfl⟩;have HB : Hid (Below w.heap.size w W) := by rw [hW]; exact (br_.alloc nr_ _).alloc (by simp) _
 have HZ : Hid (w.heap.size + 2 = W.heap.size) := by rw [hW]; simp [Hid]
 have e0 : W.cell? ⟨w.heap.size, 0, none⟩ = some (.int .i64 sz) := by rw [hW]; simp [go_sem]
 have e1 : W.cell? ⟨w.heap.size, 1, none⟩ = some (.slice A m c) := by rw [hW]; simp [go_sem]
 have e2 : W.cell? ⟨w.heap.size + 1, 0, none⟩ = some (.int .i64 0) := by rw [hW]; simp [go_sem]
 have e3 : W.cell? ⟨w.heap.size + 1, 1, none⟩ = some (.slice none 0 0) := by rw [hW]; simp [go_sem]
 have e4 : W.frozen? ⟨w.heap.size + 1, 0, none⟩ = false := by rw [hW]; simp [go_sem]
 have e5 : W.frozen? ⟨w.heap.size + 1, 1, none⟩ = false := by rw [hW]; simp [go_sem]
 have k1 := h.keep (HB.mono hB) nr_;have HK := hh_ k1;have HW := hh_ hW;clear hW h k1;go_enter Tryz.func96, Tryz.ntmps96;go_wp2_with fail
 rw [← HW.out];have HO : Hid (Own ((W.alloc (Obj.cells #[] 3)).drew) W.heap.size (W.heap.size + 1) 3 1 (some ⟨W.heap.size, 0, none⟩) 0 0 (fun _ => .int .i64 0)) :=
  .inr ⟨W.heap.size, #[], rfl, nr_, Nat.lt_succ_self _, heap_alloc_new W _, nr_, by unfold maxLen; omega, rfl, fun j hj => absurd hj (by omega)⟩
 have d2 : ((W.alloc (Obj.cells #[] 3)).drew).cell? ⟨w.heap.size + 1, 0, none⟩ = some (.int .i64 0) := (World.cell?_alloc_lt W _ ⟨w.heap.size + 1, 0, none⟩ (by have := HZ.out; show w.heap.size + 1 < _; omega)).trans e2;have d3 : ((W.alloc (Obj.cells #[] 3)).drew).cell? ⟨w.heap.size + 1, 1, none⟩ = some (.slice none 0 0) := (World.cell?_alloc_lt W _ ⟨w.heap.size + 1, 1, none⟩ (by have := HZ.out; show w.heap.size + 1 < _; omega)).trans e3;have d4 : ((W.alloc (Obj.cells #[] 3)).drew).frozen? ⟨w.heap.size + 1, 0, none⟩ = false := (World.frozen?_of_block (Below.heap_alloc W _ (w.heap.size + 1) (by have := HZ.out; omega))).trans e4;have d5 : ((W.alloc (Obj.cells #[] 3)).drew).frozen? ⟨w.heap.size + 1, 1, none⟩ = false := (World.frozen?_of_block (Below.heap_alloc W _ (w.heap.size + 1) (by have := HZ.out; omega))).trans e5;have HR : Hid (Rd ((W.alloc (Obj.cells #[] 3)).drew) B A m c x) := HK.keep (((Below.refl B W).alloc (by have := HZ.out; omega) _).drew) nr_
 go_region_held3 (fun z => z.cell? ⟨w.heap.size, 0, none⟩ = some (.int .i64 sz) ∧ z.cell? ⟨w.heap.size, 1, none⟩ = some (.slice A m c))
  (first | (refine ⟨?_, ?_⟩ <;> assumption) | go_keep | (refine ⟨?_, ?_⟩ <;> (refine (hb.cell (by have := HZ.out; show w.heap.size < _; omega)).trans ?_; go_keep)))
  ((refine step_appendI _ (by rfl) _ _ (by rfl) (by rfl) HO.out (by rfl) HR.out (by simp) (by omega) (by omega) ?_; intro A' c' w1 hO hb; have r2 := up hb d2 (by have := HZ.out; omega); have r3 := up hb d3 (by have := HZ.out; omega); have r4 := upf hb d4 (by have := HZ.out; omega); have r5 := upf hb d5 (by have := HZ.out; omega)))
 have hz2 := hb.size;simp at hz2;rw [Nat.zero_add] at hO;have HO2 := hh_ hO;have HB2 : Hid (Below w.heap.size w w1) := HB.trans (((((Below.refl W.heap.size W).alloc nr_ _).drew).trans hb).mono (by have := HZ.out; omega));clear hO hb d2 d3 d4 d5 e0 e1 e2 e3 e4 e5 HO HR HK HW;go_wp2;have F : Fr (w.heap.size + 1) (w.heap.size + 2) w1 _ := ((Fr.refl _ _ _).setCell (p := ⟨w.heap.size + 1, 0, none⟩) (by show w.heap.size + 1 ≤ w.heap.size + 1; omega) (by show w.heap.size + 1 < _; omega) (Value.int IntKind.i64 sz)).setCell (p := ⟨w.heap.size + 1, 1, none⟩) (by show w.heap.size + 1 ≤ w.heap.size + 1; omega) (by show w.heap.size + 1 < _; omega) (Value.slice A' m c');have O1 := ((HO2.keep F (.inr (by have := HZ.out; omega))).mono (lo' := w.heap.size + 2) (by have := HZ.out; omega) F.size);exact bodyPost_ret (v := .agg #[.int .i64 sz, .slice A' m c']) (by simp [results, Tryz.results96, go_sem, *]) rfl ⟨A', c', rfl, O1.congr (fun j hj => by unfold thenI; simp), HB2.trans (F.below (by omega) (by have := HZ.out; omega))⟩
theorem copyGraph_any (sz : Int) (A : Option Addr) (m c : Nat) (x : Nat → Int) (w : World) (B : Nat) (h : Rd w B A m c x) (hB : B ≤ w.heap.size) (hm : m ≤ 1048576) :
 Calls Tryz.prog 141 #[.agg #[.int .i64 sz, .slice A m c]] w fun e w' => ∃ A' c', e = .returned (.agg #[.int .i64 sz, .slice A' m c']) ∧ Own w' (w.heap.size + 2) w'.heap.size 3 1 A' m c' (fun j => .int .i64 (x j)) ∧ Below w.heap.size w w' := by
 obtain ⟨W, hW⟩ : ∃ W, W = ((w.alloc (Obj.cells #[.int .i64 sz, .slice A m c] 28)).alloc (Obj.cells #[.int .i64 0, .slice none 0 0] 28)) := ⟨_, rfl⟩;have HB : Hid (Below w.heap.size w W) := by rw [hW]; exact (br_.alloc nr_ _).alloc (by simp) _
 have HZ : Hid (w.heap.size + 2 = W.heap.size) := by rw [hW]; simp [Hid]
 have e0 : W.cell? ⟨w.heap.size, 0, none⟩ = some (.int .i64 sz) := by rw [hW]; simp [go_sem]
 have e1 : W.cell? ⟨w.heap.size, 1, none⟩ = some (.slice A m c) := by rw [hW]; simp [go_sem]
 have e2 : W.cell? ⟨w.heap.size + 1, 0, none⟩ = some (.int .i64 0) := by rw [hW]; simp [go_sem]
 have e3 : W.cell? ⟨w.heap.size + 1, 1, none⟩ = some (.slice none 0 0) := by rw [hW]; simp [go_sem]
 have e4 : W.frozen? ⟨w.heap.size + 1, 0, none⟩ = false := by rw [hW]; simp [go_sem]
 have e5 : W.frozen? ⟨w.heap.size + 1, 1, none⟩ = false := by rw [hW]; simp [go_sem]
 have k1 := h.keep (HB.mono hB) nr_;have HK := hh_ k1;have HW := hh_ hW;clear hW h k1;go_enter Tryz.func141, Tryz.ntmps141;go_wp2_with fail
 rw [← HW.out];have HO : Hid (Own ((W.alloc (Obj.cells #[] 3)).drew) W.heap.size (W.heap.size + 1) 3 1 (some ⟨W.heap.size, 0, none⟩) 0 0 (fun _ => .int .i64 0)) :=
  .inr ⟨W.heap.size, #[], rfl, nr_, Nat.lt_succ_self _, heap_alloc_new W _, nr_, by unfold maxLen; omega, rfl, fun j hj => absurd hj (by omega)⟩
 have d2 : ((W.alloc (Obj.cells #[] 3)).drew).cell? ⟨w.heap.size + 1, 0, none⟩ = some (.int .i64 0) := (World.cell?_alloc_lt W _ ⟨w.heap.size + 1, 0, none⟩ (by have := HZ.out; show w.heap.size + 1 < _; omega)).trans e2;have d3 : ((W.alloc (Obj.cells #[] 3)).drew).cell? ⟨w.heap.size + 1, 1, none⟩ = some (.slice none 0 0) := (World.cell?_alloc_lt W _ ⟨w.heap.size + 1, 1, none⟩ (by have := HZ.out; show w.heap.size + 1 < _; omega)).trans e3;have d4 : ((W.alloc (Obj.cells #[] 3)).drew).frozen? ⟨w.heap.size + 1, 0, none⟩ = false := (World.frozen?_of_block (Below.heap_alloc W _ (w.heap.size + 1) (by have := HZ.out; omega))).trans e4;have d5 : ((W.alloc (Obj.cells #[] 3)).drew).frozen? ⟨w.heap.size + 1, 1, none⟩ = false := (World.frozen?_of_block (Below.heap_alloc W _ (w.heap.size + 1) (by have := HZ.out; omega))).trans e5;have HR : Hid (Rd ((W.alloc (Obj.cells #[] 3)).drew) B A m c x) := HK.keep (((Below.refl B W).alloc (by have := HZ.out; omega) _).drew) nr_
 go_region_held3 (fun z => z.cell? ⟨w.heap.size, 0, none⟩ = some (.int .i64 sz) ∧ z.cell? ⟨w.heap.size, 1, none⟩ = some (.slice A m c))
  (first | (refine ⟨?_, ?_⟩ <;> assumption) | go_keep | (refine ⟨?_, ?_⟩ <;> (refine (hb.cell (by have := HZ.out; show w.heap.size < _; omega)).trans ?_; go_keep)))
  ((refine step_appendI _ (by rfl) _ _ (by rfl) (by rfl) HO.out (by rfl) HR.out (by simp) (by omega) (by omega) ?_; intro A' c' w1 hO hb; have r2 := up hb d2 (by have := HZ.out; omega); have r3 := up hb d3 (by have := HZ.out; omega); have r4 := upf hb d4 (by have := HZ.out; omega); have r5 := upf hb d5 (by have := HZ.out; omega)))
 have hz2 := hb.size;simp at hz2;rw [Nat.zero_add] at hO;have HO2 := hh_ hO;have HB2 : Hid (Below w.heap.size w w1) := HB.trans (((((Below.refl W.heap.size W).alloc nr_ _).drew).trans hb).mono (by have := HZ.out; omega));clear hO hb d2 d3 d4 d5 e0 e1 e2 e3 e4 e5 HO HR HK HW;go_wp2;have F : Fr (w.heap.size + 1) (w.heap.size + 2) w1 _ := ((Fr.refl _ _ _).setCell (p := ⟨w.heap.size + 1, 0, none⟩) (by show w.heap.size + 1 ≤ w.heap.size + 1; omega) (by show w.heap.size + 1 < _; omega) (Value.int IntKind.i64 sz)).setCell (p := ⟨w.heap.size + 1, 1, none⟩) (by show w.heap.size + 1 ≤ w.heap.size + 1; omega) (by show w.heap.size + 1 < _; omega) (Value.slice A' m c');have O1 := ((HO2.keep F (.inr (by have := HZ.out; omega))).mono (lo' := w.heap.size + 2) (by have := HZ.out; omega) F.size);exact bodyPost_ret (v := .agg #[.int .i64 sz, .slice A' m c']) (by simp [results, Tryz.results141, go_sem, *]) rfl ⟨A', c', rfl, O1.congr (fun j hj => by unfold thenI; simp), HB2.trans (F.below (by omega) (by have := HZ.out; omega))⟩
end Go.Proofs.YtdpkbfiggbcclaaGreat
/-
 Contracts: two bits of a graph turned.
-/
namespace Go.Proofs.YtdpkbfiggbcclaaGreat
open Go.RowKit
end Go.Proofs.YtdpkbfiggbcclaaGreat
/-
 The pairs of n vertices in lexicographic order, gone through one after the other; plain lists, no program.
-/
namespace Go.Proofs.YtdpkbfiggbcclaaGreat
def prRow (n v : Nat) : List (Nat × Nat) := (List.range' (v + 1) (n - (v + 1))).map fun w => (v, w)
def pr (n : Nat) : List (Nat × Nat) := (List.range n).flatMap (prRow n)
end Go.Proofs.YtdpkbfiggbcclaaGreat
/-
 Slices of edits: what they read as; the law's helpers on them.
-/
namespace Go.Proofs.YtdpkbfiggbcclaaGreat
open Go.RowKit
end Go.Proofs.YtdpkbfiggbcclaaGreat
/-
 Contracts: the edges of a graph, of both programs; whether two vertices of a good graph are neighbours.
-/
namespace Go.Proofs.YtdpkbfiggbcclaaGreat
open Go.RowKit
end Go.Proofs.YtdpkbfiggbcclaaGreat
/-
 Contracts of the reference: whether two vertices of a good graph are neighbours; the edges of a graph.
-/
namespace Go.Proofs.YtdpkbfiggbcclaaGreat
open Go.RowKit
theorem l2Edge_any (s : Int) (b o m c : Nat) (w : World) (v u : Nat) (y : Int) (hy : w.cell? ⟨b, o + v, none⟩ = some (.int .i64 y)) (hb : b < w.heap.size) (hv : v < m) (h0 : 0 ≤ y) (h1 : y < 16777216) (hu : u ≤ 63) :
 Calls Tryz.prog 85 #[.agg #[.int .i64 s, .slice (some ⟨b, o, none⟩) m c], .int .i64 v, .int .i64 u] w fun e w' => e = .returned (.bool (y.toNat.testBit u)) ∧ Below w.heap.size w w' := by
 have HB : Hid (Below w.heap.size w (w.alloc (Obj.cells #[.int .i64 s, .slice (some ⟨b, o, none⟩) m c] 28))) := br_.alloc nr_ _;have E := and_one_i64 y u h0 h1;have H := hh_ E;have hv' : (v : Int) < m := by omega
 have q := (HB.cell (p := ⟨b, o + v, none⟩) hb).trans hy;clear E hy;go_enter Tryz.func85, Tryz.ntmps85;go_wp2;go_ret;exact ⟨ret_bool H.out, HB.out⟩
end Go.Proofs.YtdpkbfiggbcclaaGreat
/-
 Contracts: the optional edges between two graphs, of both programs.
-/
namespace Go.Proofs.YtdpkbfiggbcclaaGreat
open Go.RowKit
theorem OwnD.nil_ (w : World) (lo hi : Nat) : OwnD w lo hi none 0 [] := ⟨Own.nil _ _ _ _ _ _, (fun d hd => by cases hd), List.Pairwise.nil⟩
end Go.Proofs.YtdpkbfiggbcclaaGreat
/-
 Contract: all pairs of n vertices.
-/
namespace Go.Proofs.YtdpkbfiggbcclaaGreat
open Go.RowKit
end Go.Proofs.YtdpkbfiggbcclaaGreat
/-
 Plain lists of edits, and pushes onto slices of edits.
-/
namespace Go.Proofs.YtdpkbfiggbcclaaGreat
open Go.RowKit
theorem okB_ok {s : Int} {m : Nat} {x : Nat → Int} (h : okB s m x = true) : OkG s m x := by
 refine Classical.byContradiction fun h2 => ?_
 rw [okB_no h2] at h; cases h
theorem Pushed.caged {w w' : World} {lo g size n c g' cap : Nat} {e : TypeId} {x : Nat → Value} (hp : Pushed w w' lo e size (some ⟨g, 0, none⟩) n c x g' cap) :
 Own w' g' (g' + 1) e size (some ⟨g', 0, none⟩) (n + 1) cap x ∧ (g' = g ∨ g' = w.heap.size) ∧ g' < w'.heap.size ∧ Fr g (g + 1) w w' := by
 have hg' : g' = g ∨ g' = w.heap.size := by
  rcases hp.at_ with h | h
  ·simp [Value.ownBlock] at h; exact .inl h.symm
  ·exact .inr h
 rcases hp.own with ⟨h, _⟩ | ⟨g1, cur, k1, k2, k3, r⟩
 ·cases h
 ·simp only [Option.some.injEq, Addr.mk.injEq, and_true] at k1;subst k1;refine ⟨.inr ⟨g', cur, rfl, nr_, Nat.lt_succ_self _, r⟩, hg', k3, ⟨hp.grown.os, hp.grown.tape, hp.grown.output, hp.grown.size, fun k hk ho => hp.grown.block k hk ?_⟩⟩;simp [Value.ownBlock];omega
end Go.Proofs.YtdpkbfiggbcclaaGreat
/-
 Contracts: a set's list, of both programs.
-/
namespace Go.Proofs.YtdpkbfiggbcclaaGreat
open Go.RowKit
def ni (l : List Nat) : Nat → Value := fun i => .int .i64 ((l.getD i 0 : Nat) : Int)
theorem ni_left {l : List Nat} {k j : Nat} (h : j < l.length * 1) : ni (l ++ [k]) j = ni l j := by
 unfold ni; simp [List.getD, List.getElem?_append_left (by omega : j < l.length)]
theorem ni_news {l : List Nat} {k : Nat} : ∀ i, i < 1 → (#[.int .i64 (k : Int)] : Array Value)[i]? = some (ni (l ++ [k]) (l.length * 1 + i)) := by
 intro i hi;obtain rfl : i = 0 := by omega
 unfold ni; simp [List.getD]
theorem ni_at {l : List Nat} {j : Nat} (h : j < l.length) : ni l j = .int .i64 (l[j] : Int) := by unfold ni; simp [List.getD, h]
theorem wpList_pushN (W : World) {ops : Array Oper} {rest : List Oper} {o : Oper} {a : Act} {Q : Exit → Act → World → Prop} (hgd : o.guard = none) (s y : Operand)
 (ho : o.op = .call { callee := .builtin .append, args := #[s, y], argTypes := #[22, 22] })
 (lo hi : Nat) (A : Option Addr) (c : Nat) (T : List Nat) (h : Own W lo hi 3 1 A T.length c (ni T)) (hlo : lo ≤ W.heap.size) (k : Nat) (hs : a.eval s = .slice A T.length c) (cx H : Nat) (hH : W.heap.size = H) (hy : a.eval y = .slice (some ⟨H, 0, none⟩) 1 cx)
 (hn : T.length ≤ 1073741824)
 (hK : ∀ g cap w', Own w' lo w'.heap.size 3 1 (some ⟨g, 0, none⟩) (T.length + 1) cap (ni (T ++ [k])) → Below lo W w' → wpList Tryz.prog ops Q rest (a.put o.dst (.slice (some ⟨g, 0, none⟩) (T.length + 1) cap)) w') :
 wpList Tryz.prog ops Q (o :: rest) a (W.alloc (Obj.cells #[.int .i64 (k : Int)] 3)) := by
 subst hH;have ha := h.alloc (Obj.cells #[.int .i64 (k : Int)] 3);refine wpList_push (W.alloc (Obj.cells #[.int .i64 (k : Int)] 3)) hgd s y 22 ho 3 _ 1 8 Tryz.underlying22 info_int rfl (by omega) lo hi A T.length c (ni (T ++ [k])) hs
  (ha.congr (fun j hj => (ni_left hj).symm)) (by simp; omega) W.heap.size #[.int .i64 (k : Int)] 3 (0, 0) cx (heap_alloc_new W _) hy rfl ni_news (by simp [Value.oneCell']) hn (by omega) ?_
 intro g cap w' hp;exact hK g cap w' hp.own ((br_.alloc hlo _).trans hp.below)
theorem ListOf_i (s : Nat) (hs : s < 128) (w : World) :
 Calls Tryz.prog 267 #[.int .i64 s] w fun e w' => ∃ A c, e = .returned (.slice A (listN s).length c) ∧ Own w' w.heap.size w'.heap.size 3 1 A (listN s).length c (ni (listN s)) ∧ Below w.heap.size w w' := by
 obtain ⟨W, hW⟩ : ∃ W, W = w.alloc (Obj.cells #[] 3) := ⟨_, rfl⟩;have HB : Hid (Below w.heap.size w W) := by rw [hW]; exact br_.alloc nr_ _
 have hz1 : w.heap.size < W.heap.size := by rw [hW]; simp
 have HO : Hid (Own W w.heap.size W.heap.size 3 1 (some ⟨w.heap.size, 0, none⟩) 0 0 (ni [])) := by
  refine .inr ⟨w.heap.size, #[], rfl, nr_, hz1, ?_, nr_, by unfold maxLen; omega, rfl, fun j hj => absurd hj (by omega)⟩;rw [hW];exact heap_alloc_new w _
 have HW := hh_ hW;clear hW;go_enter Tryz.func267, Tryz.ntmps267;go_wp2_with (first | (go_at_call 193; refine (within_yes _ _ _ _ (by omega) (by omega)).mono ?_; rintro e w' ⟨rfl, rfl⟩))
 rw [← HW.out];clear HW;go_loopw [3, 10] (fun l i wr => ∃ (k : Nat) (A' : Option Addr) (c' : Nat), k ≤ 7 ∧ i = .int .i64 k ∧ l = .slice A' (listK s k).length c' ∧ Hid (Own wr w.heap.size wr.heap.size 3 1 A' (listK s k).length c' (ni (listK s k))) ∧ Hid (Below w.heap.size w wr)) (fun _ i _ => 7 - (intOf i).toNat);case atStart => exact ⟨0, _, 0, Nat.zero_le _, rfl, rfl, HO, HB⟩
 case round =>
  obtain ⟨k, A', c', hk, rfl, rfl, hO, hbr⟩ := hrel;have zr := hbr.size;have hlen := listK_len s k;by_cases hlt : k < 7
  ·have K1 : Hid (∀ w, Calls Tryz.prog 90 #[.int .i64 s, .int .i64 k] w fun e w' => e = .returned (.bool (s.testBit k)) ∧ w = w') := fun w => (has_any s k w (by omega) (by omega) (by omega) (by omega)).mono fun _ _ ⟨h1, h2⟩ => ⟨by rw [h1, Int.toNat_natCast, Int.toNat_natCast], h2⟩
   cases ht : s.testBit k
   ·have HL := hh_ (listK_no ht);rw [ht] at K1;clear ht;go_wp2_with (first | (go_at_call 90; with_reducible refine (K1.out _).mono ?_; rintro e w' ⟨rfl, rfl⟩))
    go_roundw;case rel => exact ⟨k + 1, A', c', by omega, by go_num, by rw [HL.out], by rw [HL.out]; exact hO, hbr⟩
    case measure => simp [intOf]; omega
   ·have HL := hh_ (listK_yes ht);rw [ht] at K1;clear ht;go_wp2_with (first | (go_at_call 90; with_reducible refine (K1.out _).mono ?_; rintro e w' ⟨rfl, rfl⟩) | (at_builtin; (refine wpList_pushN wr rfl _ _ rfl w.heap.size wr.heap.size A' c' (listK s k) hO.out zr k rfl 1 wr.heap.size rfl rfl (by omega) ?_; intro g cap w3 hO2 hb2)))
    have H4 := hh_ hO2;have H5 : Hid (Below w.heap.size w w3) := hbr.trans hb2;clear hO2 hb2 hbr hO;go_roundw;case rel => exact ⟨k + 1, _, _, by omega, by go_num, by rw [HL.out, List.length_append]; rfl, by rw [HL.out, List.length_append]; exact H4.out, H5⟩
    case measure => simp [intOf]; omega
  ·have hk7 : k = 7 := by omega
   have HN : Hid (listK s k = listN s) := by show _ = _; rw [hk7]; rfl
   have i1 : (7 : Int) ≤ k := by omega
   clear hk7;go_wp2;go_ret;exact ⟨A', c', by rw [← HN.out]; rfl, by rw [← HN.out]; exact hO.out, hbr.out⟩
theorem l3Fine_yes (s : Int) (w : World) (h0 : 0 ≤ s) (h1 : s ≤ 127) : Calls Tryz.prog 309 #[.int .i64 s] w fun e w' => e = .returned (.bool true) ∧ w = w' := by
 go_enter Tryz.func309, Tryz.ntmps309;go_wp2_with (first | (go_at_call 191; refine (l1In_yes _ _ _ _ (by omega) (by omega)).mono ?_; rintro e w' ⟨rfl, rfl⟩))
 go_ret;exact ⟨rfl, rfl⟩
theorem ListOf_s (s : Nat) (hs : s < 128) (w : World) :
 Calls Tryz.prog 187 #[.int .i64 s] w fun e w' => ∃ A c, e = .returned (.slice A (listN s).length c) ∧ Own w' w.heap.size w'.heap.size 3 1 A (listN s).length c (ni (listN s)) ∧ Below w.heap.size w w' := by
 obtain ⟨W, hW⟩ : ∃ W, W = w.alloc (Obj.cells #[] 3) := ⟨_, rfl⟩;have HB : Hid (Below w.heap.size w W) := by rw [hW]; exact br_.alloc nr_ _
 have hz1 : w.heap.size < W.heap.size := by rw [hW]; simp
 have HO : Hid (Own W w.heap.size W.heap.size 3 1 (some ⟨w.heap.size, 0, none⟩) 0 0 (ni [])) := by
  refine .inr ⟨w.heap.size, #[], rfl, nr_, hz1, ?_, nr_, by unfold maxLen; omega, rfl, fun j hj => absurd hj (by omega)⟩;rw [hW];exact heap_alloc_new w _
 have HW := hh_ hW;clear hW;go_enter Tryz.func187, Tryz.ntmps187;go_wp2;rw [← HW.out];clear HW;go_loopw [3, 4] (fun l i wr => ∃ (k : Nat) (A' : Option Addr) (c' : Nat), k ≤ 7 ∧ i = .int .i64 k ∧ l = .slice A' (listK s k).length c' ∧ Hid (Own wr w.heap.size wr.heap.size 3 1 A' (listK s k).length c' (ni (listK s k))) ∧ Hid (Below w.heap.size w wr)) (fun _ i _ => 7 - (intOf i).toNat);case atStart => exact ⟨0, _, 0, Nat.zero_le _, rfl, rfl, HO, HB⟩
 case round =>
  obtain ⟨k, A', c', hk, rfl, rfl, hO, hbr⟩ := hrel;have zr := hbr.size;have hlen := listK_len s k;by_cases hlt : k < 7
  ·have E := and_one_i64 (s : Int) k (by omega) (by omega);rw [Int.toNat_natCast] at E;cases ht : s.testBit k
   ·have HL := hh_ (listK_no ht);rw [ht] at E;clear ht;go_wp2_with (first | (go_at_call 309; refine (l3Fine_yes _ _ (by omega) (by omega)).mono ?_; rintro e w' ⟨rfl, rfl⟩))
    go_roundw;case rel => exact ⟨k + 1, A', c', by omega, by go_num, by rw [HL.out], by rw [HL.out]; exact hO, hbr⟩
    case measure => simp [intOf]; omega
   ·have HL := hh_ (listK_yes ht);rw [ht] at E;clear ht;go_wp2_with (first | (go_at_call 309; refine (l3Fine_yes _ _ (by omega) (by omega)).mono ?_; rintro e w' ⟨rfl, rfl⟩) | (at_builtin; (refine wpList_pushN wr rfl _ _ rfl w.heap.size wr.heap.size A' c' (listK s k) hO.out zr k rfl 1 wr.heap.size rfl rfl (by omega) ?_; intro g cap w3 hO2 hb2)))
    have H4 := hh_ hO2;have H5 : Hid (Below w.heap.size w w3) := hbr.trans hb2;clear hO2 hb2 hbr hO;go_roundw;case rel => exact ⟨k + 1, _, _, by omega, by go_num, by rw [HL.out, List.length_append]; rfl, by rw [HL.out, List.length_append]; exact H4.out, H5⟩
    case measure => simp [intOf]; omega
  ·have hk7 : k = 7 := by omega
   have HN : Hid (listK s k = listN s) := by show _ = _; rw [hk7]; rfl
   have i1 : (7 : Int) ≤ k := by omega
   clear hk7;go_wp2;go_ret;exact ⟨A', c', by rw [← HN.out]; rfl, by rw [← HN.out]; exact hO.out, hbr.out⟩
end Go.Proofs.YtdpkbfiggbcclaaGreat
/-
 Contracts: is a set a clique? The program's test; the closure that looks for a simplicial vertex; the search for the first.
-/
namespace Go.Proofs.YtdpkbfiggbcclaaGreat
open Go.RowKit
def rw_ (x : Nat → Int) : Nat → Nat := fun v => (x v).toNat
theorem okB_vg {m : Nat} {x : Nat → Int} (h : okB m m x = true) : VG m (rw_ x) ∧ ∀ v, v < m → x v = (rw_ x v : Int) := by
 have hok : OkG m m x := by
  refine Classical.byContradiction fun h2 => ?_
  rw [okB_no h2] at h; cases h
 obtain ⟨r, _, vg, hx⟩ := hok;exact ⟨vg.congr fun v hv => by show r v = (x v).toNat; rw [hx v hv]; simp, fun v hv => by show x v = ((x v).toNat : Int); rw [hx v hv]; simp⟩
theorem isClique_i (m : Nat) (A : Option Addr) (c : Nat) (x : Nat → Int) (s : Nat) (w : World) (B : Nat) (h : Rd w B A m c x) (hB : B ≤ w.heap.size) (hok : okB m m x = true) (hs : s < 2 ^ m) :
 Calls Tryz.prog 264 #[.agg #[.int .i64 m, .slice A m c], .int .i64 s] w fun e w' => e = .returned (.bool (cliq (rw_ x) s)) ∧ Below w.heap.size w w' := by
 obtain ⟨vg, hx⟩ := okB_vg hok;have hn1 := vg.n1;have hn7 := vg.n7;have h128 := two_pow_le hn7;obtain ⟨W, hW⟩ : ∃ W, W = (w.alloc (Obj.cells #[.int .i64 m, .slice A m c] 28)) := ⟨_, rfl⟩;have HB : Hid (Below w.heap.size w W) := by rw [hW]; exact (br_.alloc nr_ _)
 have a0 : w.heap.size < W.heap.size := by rw [hW]; simp
 have e1 : W.cell? ⟨w.heap.size, 1, none⟩ = some (.slice A m c) := by rw [hW]; simp [go_sem]
 obtain ⟨b, o, rfl, hb, hc⟩ := (h.keep (HB.mono hB) nr_).pos (by omega);have HC := hh_ hc;have HW := hh_ hW;have HX := hh_ hx;have HV := hh_ vg;clear hW h hc hx vg hok;go_enter Tryz.func264, Tryz.ntmps264;go_wp2_with fail
 rw [← HW.out];clear HW;refine (ListOf_i s (by omega) W).mono ?_;rintro e w1 ⟨A', c', rfl, hO, hb1⟩;have z1 := hb1.size;have f1 := up hb1 e1 a0;have HO := hh_ hO;have HB1 : Hid (Below w.heap.size w w1) := HB.trans (hb1.mono (by omega));have HC1 : Hid (∀ v, v < m → w1.cell? ⟨b, o + v, none⟩ = some (.int .i64 (x v))) := fun v hv => (hb1.cell (p := ⟨b, o + v, none⟩) (by show b < _; omega)).trans (HC.out v hv)
 have hl7 := listN_len s;have a1 : w.heap.size < w1.heap.size := by omega
 clear hO hb1 e1 HC HB;go_wp2;go_loopw [10] (fun i wr => ∃ k : Nat, k ≤ (listN s).length ∧ i = .int .i64 k ∧ Hid (∀ j (hj : j < (listN s).length), j < k → s ^^^ (s &&& rw_ x (listN s)[j]) = 2 ^ (listN s)[j]) ∧ Hid (Below w1.heap.size w1 wr)) (fun i _ => (listN s).length - (intOf i).toNat);case atStart => exact ⟨0, Nat.zero_le _, rfl, (fun j hj hk => absurd hk (by omega)), br_⟩
 case round =>
  obtain ⟨k, hk, rfl, hall, hbr⟩ := hrel;have zr := hbr.size;by_cases hlt : k < (listN s).length
  ·obtain ⟨hv7, hvb⟩ := listN_at hlt;have hvm := bit_lt hs hvb;obtain ⟨v, hv⟩ : ∃ v, v = (listN s)[k] := ⟨_, rfl⟩;rw [← hv] at hv7 hvb hvm;obtain ⟨g, hA, hg1, hg2, _, hcell, _⟩ := HO.at_ (by omega);have q0 : wr.cell? ⟨g, k, none⟩ = some (.int .i64 v) := (hbr.cell (p := ⟨g, k, none⟩) (by show g < _; omega)).trans ((hcell k (by omega)).trans (by rw [ni_at hlt, ← hv]));have q1 := up hbr.out f1 a1;have q2 := (hbr.cell (p := ⟨b, o + v, none⟩) (by show b < _; omega)).trans (HC1.out v hvm);have hxv := HX.out v hvm;have hr128 := HV.lt128 hvm;have E := i64_andNot (s : Int) (x v) (by omega) (by omega) (by omega) (by omega);rw [Int.toNat_natCast] at E;have p1 := pow_shl v (by omega);have i1 : (k : Int) < ((listN s).length : Int) := by omega
   have i2 : (v : Int) < m := by omega
   have Hv := hh_ hv;subst hA;by_cases hq : s ^^^ (s &&& (x v).toNat) = 2 ^ v
   ·have hne : (bits BinOp.andNot .i64 (s : Int) (x v) != 2 ^ v) = false := by rw [E, hq]; simp
    have Hq : Hid (s ^^^ (s &&& rw_ x (listN s)[k]) = 2 ^ (listN s)[k]) := by show _ = _; rw [← Hv.out]; exact hq
    clear E hq hv hcell hxv hvb;go_wp2;go_quiet (fail)
    go_wp2;go_roundw;case rel =>
     refine ⟨k + 1, by omega, by go_num, fun j hj hk => ?_, below_drewN hbr.out _⟩;by_cases hjk : j < k
     ·exact hall.out j hj hjk
     ·have : j = k := by omega
      subst this;exact Hq.out
    case measure => simp [intOf]; omega
   ·have hne : (bits BinOp.andNot .i64 (s : Int) (x v) != 2 ^ v) = true := by
     rw [E, bne_iff_ne];intro e;apply hq;have e2 : ((2 ^ v : Nat) : Int) = 2 ^ v := by simp
     rw [← e2] at e;omega
    have hno : Hid (cliq (rw_ x) s = false) := cliq_no hv7 hvb hq;clear E hq hv hcell hxv hvb;go_wp2;go_quiet (fail)
    go_wp2;go_ret;exact ⟨ret_bool hno.symm, HB1.trans ((below_drewN hbr.out _).mono (by omega))⟩
  ·have hyes : Hid (cliq (rw_ x) s = true) := by
    refine cliq_yes fun v hv hb => ?_
    obtain ⟨j, hj, rfl⟩ := List.mem_iff_getElem.1 (mem_listN.2 ⟨hv, hb⟩);exact hall.out j hj (by omega)
   have i1 : ((listN s).length : Int) ≤ (k : Int) := by omega
   go_wp2;go_ret;exact ⟨ret_bool hyes.symm, HB1.trans (hbr.mono (by omega))⟩
theorem simp_i (m : Nat) (A : Option Addr) (c : Nat) (x : Nat → Int) (left v bg bl : Nat) (w : World) (B : Nat) (h : Rd w B A m c x) (hB : B ≤ w.heap.size) (hok : okB m m x = true) (hs : left < 2 ^ m) (hv : v < m)
 (g0 : w.cell? ⟨bg, 0, none⟩ = some (.int .i64 m)) (g1 : w.cell? ⟨bg, 1, none⟩ = some (.slice A m c)) (l0 : w.cell? ⟨bl, 0, none⟩ = some (.int .i64 left)) :
 Calls Tryz.prog 354 #[.int .i64 v, .pointer (some ⟨bg, 0, none⟩), .pointer (some ⟨bl, 0, none⟩)] w fun e w' => e = .returned (.bool (cliq (rw_ x) (rw_ x v &&& left))) ∧ Below w.heap.size w w' := by
 obtain ⟨vg, hx⟩ := okB_vg hok;have hn7 := vg.n7;have h128 := two_pow_le hn7;have hr128 := vg.lt128 hv;obtain ⟨b, o, rfl, hb, hc⟩ := h.pos (by omega);have q0 := hc v hv;rw [hx v hv] at q0;have E := i64_and_nat (rw_ x v) left (by omega) (by omega);have hlt : rw_ x v &&& left < 2 ^ m := Nat.lt_of_le_of_lt Nat.and_le_right hs;have i1 : (v : Int) < m := by omega
 have Hok := hh_ hok;have HR : Hid (Rd w.drew B (some ⟨b, o, none⟩) m c x) := h;have HBd : Hid (B ≤ w.drew.heap.size) := hB;clear hx vg hc hok h;go_enter Tryz.func354, Tryz.ntmps354;go_wp2_with fail
 go_region_held3 (fun z => z.cell? ⟨bg, 0, none⟩ = some (.int .i64 m) ∧ z.cell? ⟨bg, 1, none⟩ = some (.slice (some ⟨b, o, none⟩) m c) ∧ z.cell? ⟨bl, 0, none⟩ = some (.int .i64 left) ∧ z.cell? ⟨b, o + v, none⟩ = some (.int .i64 (rw_ x v : Int)))
  (first | (refine ⟨?_, ?_, ?_, ?_⟩ <;> assumption) | exact ⟨up hb3 g0 (World.block_lt_of_cell? _ _ g0), up hb3 g1 (World.block_lt_of_cell? _ _ g1), up hb3 l0 (World.block_lt_of_cell? _ _ l0), up hb3 q0 (World.block_lt_of_cell? _ _ q0)⟩ | fail)
  (first | (go_at_call 264; ((with_reducible refine (isClique_i m (some ⟨b, o, none⟩) c x (rw_ x v &&& left) _ _ HR.out HBd.out Hok.out hlt).mono ?_); rintro e w3 ⟨rfl, hb3⟩)))
 have HB : Hid (Below w.heap.size w w3) := ⟨hb3.os, hb3.tape, hb3.output, hb3.size, hb3.block⟩;clear hb3;go_wp2;go_ret;exact ⟨rfl, HB.out⟩
end Go.Proofs.YtdpkbfiggbcclaaGreat
/-
 Contracts: is a set a clique? The reference's tests; is a vertex simplicial?
-/
namespace Go.Proofs.YtdpkbfiggbcclaaGreat
open Go.RowKit
theorem IsSet_yes (m : Nat) (A : Option Addr) (c : Nat) (x : Nat → Int) (s : Nat) (w : World) (B : Nat) (h : Rd w B A m c x) (hB : B ≤ w.heap.size) (hm : m ≤ 7) (hok : okB m m x = true) (hs : s < 2 ^ m) :
 Calls Tryz.prog 186 #[.agg #[.int .i64 m, .slice A m c], .int .i64 s] w fun e w' => e = .returned (.bool true) ∧ Below w.heap.size w w' := by
 obtain ⟨W, hW⟩ : ∃ W, W = (w.alloc (Obj.cells #[.int .i64 m, .slice A m c] 28)) := ⟨_, rfl⟩;have HB : Hid (Below w.heap.size w W) := by rw [hW]; exact (br_.alloc nr_ _)
 have a0 : w.heap.size < W.heap.size := by rw [hW]; simp
 have e0 : W.cell? ⟨w.heap.size, 0, none⟩ = some (.int .i64 m) := by rw [hW]; simp [go_sem]
 have e1 : W.cell? ⟨w.heap.size, 1, none⟩ = some (.slice A m c) := by rw [hW]; simp [go_sem]
 have HK := hh_ (h.keep (HB.mono hB) nr_);have HW := hh_ hW;have Hok := hh_ hok;have p1 := pow_shl m (by omega);have p2 : ((2 ^ m : Nat) : Int) = 2 ^ m := by simp
 have p3 : (s : Int) < 2 ^ m := by omega
 have p4 : (0 : Int) ≤ s := by omega
 clear hW h hok p2;go_enter Tryz.func186, Tryz.ntmps186;go_wp2_with fail
 rw [← HW.out];refine (IsGraph_sany m A m c x W B HK.out (by omega) (by omega)).mono ?_;rintro e w1 ⟨rfl, hb1⟩;rw [Hok.out];have f0 := up hb1 e0 a0;have f1 := up hb1 e1 a0;have HB1 : Hid (Below w.heap.size w w1) := HB.trans (hb1.mono (by omega));clear hb1 e0 e1 HW HK HB;go_wp2;go_ret;exact ⟨rfl, HB1.out⟩
theorem IsClique_s (m : Nat) (A : Option Addr) (c : Nat) (x : Nat → Int) (s : Nat) (w : World) (B : Nat) (h : Rd w B A m c x) (hB : B ≤ w.heap.size) (hok : okB m m x = true) (hs : s < 2 ^ m) :
 Calls Tryz.prog 120 #[.agg #[.int .i64 m, .slice A m c], .int .i64 s] w fun e w' => e = .returned (.bool (cliq (rw_ x) s)) ∧ Below w.heap.size w w' := by
 obtain ⟨vg, hx⟩ := okB_vg hok;have hn1 := vg.n1;have hn7 := vg.n7;have h128 := two_pow_le hn7;obtain ⟨W, hW⟩ : ∃ W, W = (w.alloc (Obj.cells #[.int .i64 m, .slice A m c] 28)) := ⟨_, rfl⟩;have HB : Hid (Below w.heap.size w W) := by rw [hW]; exact (br_.alloc nr_ _)
 have a0 : w.heap.size < W.heap.size := by rw [hW]; simp
 have e0 : W.cell? ⟨w.heap.size, 0, none⟩ = some (.int .i64 m) := by rw [hW]; simp [go_sem]
 have e1 : W.cell? ⟨w.heap.size, 1, none⟩ = some (.slice A m c) := by rw [hW]; simp [go_sem]
 have HK := hh_ (h.keep (HB.mono hB) nr_);obtain ⟨b, o, rfl, hb, hc⟩ := HK.pos (by omega);have HC := hh_ hc;have HW := hh_ hW;have HX := hh_ hx;have HV := hh_ vg;have Hok := hh_ hok;clear hW h hc hx vg hok;go_enter Tryz.func120, Tryz.ntmps120;go_wp2_with fail
 rw [← HW.out];clear HW;refine (IsSet_yes m (some ⟨b, o, none⟩) c x s W B HK.out (by omega) hn7 Hok.out hs).mono ?_;rintro e w1 ⟨rfl, hb1⟩;have z1 := hb1.size;have f0 := up hb1 e0 a0;have f1 := up hb1 e1 a0;have HB1 : Hid (Below w.heap.size w w1) := HB.trans (hb1.mono (by omega));have HC1 : Hid (∀ v, v < m → w1.cell? ⟨b, o + v, none⟩ = some (.int .i64 (x v))) := fun v hv => (hb1.cell (p := ⟨b, o + v, none⟩) (by show b < _; omega)).trans (HC.out v hv)
 have a1 : w.heap.size < w1.heap.size := by omega
 clear hb1 e0 e1 HC HB HK;go_wp2;go_loopw [5] (fun i wr => ∃ k : Nat, k ≤ m ∧ i = .int .i64 k ∧ Hid (∀ v, v < k → s.testBit v = true → s ^^^ (s &&& rw_ x v) = 2 ^ v) ∧ Hid (Below w1.heap.size w1 wr)) (fun i _ => m - (intOf i).toNat);case atStart => exact ⟨0, Nat.zero_le _, rfl, (fun v hv => absurd hv (by omega)), br_⟩
 case round =>
  obtain ⟨v, hk, rfl, hall, hbr⟩ := hrel;have zr := hbr.size;have q3 := up hbr.out f0 a1;by_cases hlt : v < m
  ·have q1 := up hbr.out f1 a1;have q2 := (hbr.cell (p := ⟨b, o + v, none⟩) (by show b < _; omega)).trans (HC1.out v hlt);have hxv := HX.out v hlt;rw [hxv] at q2;have hr128 := HV.lt128 hlt;have E := i64_and_nat (rw_ x v) s (by omega) (by omega);have E1 := and_one_i64 (s : Int) v (by omega) (by omega);rw [Int.toNat_natCast] at E1;have p1 := pow_shl v (by omega);have i2 : (v : Int) < m := by omega
   cases ht : s.testBit v
   ·rw [ht] at E1;have Ht := hh_ ht;clear E hxv ht;go_wp2;go_quiet (fail)
    go_wp2;refine ⟨⟨v + 1, by omega, by go_num, fun j hj hb => ?_, below_drewN hbr.out _⟩, by simp [intOf]; omega⟩;by_cases hjv : j < v
    ·exact hall.out j hjv hb
    ·obtain rfl : j = v := by omega
     rw [Ht.out] at hb; cases hb
   ·rw [ht] at E1;have Ht := hh_ ht;have hge := bit_ge ht;have p2 : ((2 ^ v : Nat) : Int) = 2 ^ v := by simp
    have E2 : ((s : Int) - 2 ^ v) = ((s - 2 ^ v : Nat) : Int) := by rw [Int.ofNat_sub hge]; simp
    have E3 : wrap64 ((s : Int) - 2 ^ v) = ((s - 2 ^ v : Nat) : Int) := by
     obtain ⟨d, hd⟩ : ∃ d, d = s - 2 ^ v := ⟨_, rfl⟩;have hd2 : d ≤ s := by rw [hd]; exact Nat.sub_le _ _
     rw [E2, ← hd];exact Go.IntWalk.wrap64_in (d : Int) (by clear hd E2; omega)
    by_cases hq : s ^^^ (s &&& rw_ x v) = 2 ^ v
    ·have hc := (clash (r := rw_ x) (by omega : s < 128) ht).2 hq;have hne : (bits BinOp.and .i64 (rw_ x v : Int) (s : Int) != wrap64 ((s : Int) - 2 ^ v)) = false := by rw [E, E3, hc]; simp
     have Hq := hh_ hq;clear E hq hxv ht hc p2 E2 E3;go_wp2;go_quiet (fail)
     go_wp2;refine ⟨⟨v + 1, by omega, by go_num, fun j hj hb => ?_, below_drewN hbr.out _⟩, by simp [intOf]; omega⟩;by_cases hjv : j < v
     ·exact hall.out j hjv hb
     ·obtain rfl : j = v := by omega
      exact Hq.out
    ·have hno : Hid (cliq (rw_ x) s = false) := cliq_no (by omega) ht hq;have hne : (bits BinOp.and .i64 (rw_ x v : Int) (s : Int) != wrap64 ((s : Int) - 2 ^ v)) = true := by
      rw [E, E3, bne_iff_ne];intro e;exact hq ((clash (r := rw_ x) (by omega : s < 128) ht).1 (by omega))
     clear E hq hxv ht p2 E2 E3;go_wp2;go_quiet (fail)
     go_wp2;go_ret;exact ⟨ret_bool hno.symm, HB1.trans ((below_drewN hbr.out _).mono (by omega))⟩
  ·have hyes : Hid (cliq (rw_ x) s = true) := cliq_yes fun v hv hb => hall.out v (by have := bit_lt hs hb; omega) hb
   have i1 : (m : Int) ≤ v := by omega
   go_wp2;go_ret;exact ⟨ret_bool hyes.symm, HB1.trans (hbr.mono (by omega))⟩
theorem l6Simplicial_any (m : Nat) (A : Option Addr) (c : Nat) (x : Nat → Int) (v left : Nat) (w : World) (B : Nat) (h : Rd w B A m c x) (hB : B ≤ w.heap.size) (hok : okB m m x = true) (hs : left < 2 ^ m) (hv : v < m) :
 Calls Tryz.prog 306 #[.agg #[.int .i64 m, .slice A m c], .int .i64 v, .int .i64 left] w fun e w' => e = .returned (.bool (cliq (rw_ x) (rw_ x v &&& left))) ∧ Below w.heap.size w w' := by
 obtain ⟨vg, hx⟩ := okB_vg hok;have hn7 := vg.n7;have h128 := two_pow_le hn7;have hr128 := vg.lt128 hv;obtain ⟨W, hW⟩ : ∃ W, W = (w.alloc (Obj.cells #[.int .i64 m, .slice A m c] 28)) := ⟨_, rfl⟩;have HB : Hid (Below w.heap.size w W) := by rw [hW]; exact (br_.alloc nr_ _)
 have a0 : w.heap.size < W.heap.size := by rw [hW]; simp
 have e0 : W.cell? ⟨w.heap.size, 0, none⟩ = some (.int .i64 m) := by rw [hW]; simp [go_sem]
 have e1 : W.cell? ⟨w.heap.size, 1, none⟩ = some (.slice A m c) := by rw [hW]; simp [go_sem]
 have hk := h.keep (HB.mono hB) nr_;obtain ⟨b, o, rfl, hb, hc⟩ := hk.pos (by omega);have q0 := hc v hv;rw [hx v hv] at q0;have E := i64_and_nat (rw_ x v) left (by omega) (by omega);have hlt : rw_ x v &&& left < 2 ^ m := Nat.lt_of_le_of_lt Nat.and_le_right hs;have i1 : (v : Int) < m := by omega
 have Hok := hh_ hok;have HR : Hid (Rd W.drew B (some ⟨b, o, none⟩) m c x) := hk;have HBd : Hid (B ≤ W.drew.heap.size) := by show B ≤ W.heap.size; omega
 have HW := hh_ hW;clear hx vg hc hok h hW hk;go_enter Tryz.func306, Tryz.ntmps306;go_wp2_with fail
 rw [← HW.out];clear HW;go_region_held3 (fun z => z.cell? ⟨w.heap.size, 0, none⟩ = some (.int .i64 m) ∧ z.cell? ⟨w.heap.size, 1, none⟩ = some (.slice (some ⟨b, o, none⟩) m c) ∧ z.cell? ⟨b, o + v, none⟩ = some (.int .i64 (rw_ x v : Int)))
  (first | (refine ⟨?_, ?_, ?_⟩ <;> assumption) | exact ⟨up hb3 e0 (World.block_lt_of_cell? _ _ e0), up hb3 e1 (World.block_lt_of_cell? _ _ e1), up hb3 q0 (World.block_lt_of_cell? _ _ q0)⟩ | fail)
  (first | (go_at_call 120; ((with_reducible refine (IsClique_s m (some ⟨b, o, none⟩) c x (rw_ x v &&& left) _ _ HR.out HBd.out Hok.out hlt).mono ?_); rintro e w3 ⟨rfl, hb3⟩)))
 have HB2 : Hid (Below w.heap.size w w3) := HB.trans (Below.mono (⟨hb3.os, hb3.tape, hb3.output, hb3.size, hb3.block⟩ : Below W.heap.size W w3) (by omega));clear hb3;go_wp2;go_ret;exact ⟨rfl, HB2.out⟩
end Go.Proofs.YtdpkbfiggbcclaaGreat
