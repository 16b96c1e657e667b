/-
  Several texts in one.
-/
import Derived.Test.YticadlkcjhglnaaGreatQoBestOrd
import Derived.Test.YticadlkcjhglnaaGreatQoFillOI
import Derived.Test.YticadlkcjhglnaaGreatQoLater
/-
-/
namespace Go.Proofs.YticadlkcjhglnaaGreat
open Go.RowKit
set_option maxHeartbeats 1600000
set_option maxRecDepth 100000 in
theorem firstList_no (sz : Int) (A : Option Addr) (m c : Nat) (x : Nat → Int) (n : Int) (fm fh : FuncId) (cm ch : Array Value) (w : World) (h : GA w A m c x) (ho : okB sz m x = false) (hm : m ≤ 1048576) :
 Calls Tryz.prog 132 #[.agg #[.int .i64 sz, .slice A m c], .int .i64 n, .func (.func fm) #[] cm, .func (.func fh) #[] ch] w fun e w' => e = .returned (.tuple #[.slice none 0 0, .bool false]) ∧ Below w.heap.size w w' := by
 obtain ⟨W4, hW4⟩ : ∃ W, W = ((((w.alloc (Obj.cells #[.int .i64 sz, .slice A m c] 26)).alloc (Obj.cells #[.int .i64 n] 3)).alloc (Obj.cells #[.func (.func fm) #[] cm] 110)).alloc (Obj.cells #[.func (.func fh) #[] ch] 110)) := ⟨_, rfl⟩;have HB4 : Hid (Below w.heap.size w W4) := by rw [hW4]; exact ((((br_.alloc nr_ _).alloc (by simp) _).alloc (by simp; omega) _).alloc (by simp; omega) _)
 have hz4 : w.heap.size + 1 + 1 + 1 + 1 = W4.heap.size := by rw [hW4]; simp
 have a0 : W4.cell? ⟨w.heap.size, 0, none⟩ = some (.int .i64 sz) := by rw [hW4]; simp [go_sem]
 have a2 : W4.cell? ⟨w.heap.size + 1, 0, none⟩ = some (.int .i64 n) := by rw [hW4]; simp [go_sem]
 have a3 : W4.cell? ⟨w.heap.size + 2, 0, none⟩ = some (.func (.func fm) #[] cm) := by rw [hW4]; simp [go_sem]
 have a4 : W4.cell? ⟨w.heap.size + 3, 0, none⟩ = some (.func (.func fh) #[] ch) := by rw [hW4]; simp [go_sem]
 have a1 : W4.cell? ⟨w.heap.size, 1, none⟩ = some (.slice A m c) := by rw [hW4]; simp [go_sem]
 obtain ⟨W, hW⟩ : ∃ W, W = W4.alloc (Obj.cells #[.func (.func 173) #[] #[.pointer (some ⟨w.heap.size + 1, 0, none⟩), .pointer (some ⟨w.heap.size + 1 + 1 + 1, 0, none⟩), .pointer (some ⟨w.heap.size, 0, none⟩), .pointer (some ⟨w.heap.size + 1 + 1, 0, none⟩), .pointer (some ⟨W4.heap.size, 0, none⟩)]] 74) := ⟨_, rfl⟩;have hbW : Below W4.heap.size W4 W := by rw [hW]; exact br_.alloc nr_ _
 have HB : Hid (Below w.heap.size w W) := HB4.trans (hbW.mono (by omega));have e0 := up hbW a0 (by omega);have e1 := up hbW a1 (by omega);have e4 : W.cell? ⟨W4.heap.size, 0, none⟩ = some (.func (.func 173) #[] #[.pointer (some ⟨w.heap.size + 1, 0, none⟩), .pointer (some ⟨w.heap.size + 1 + 1 + 1, 0, none⟩), .pointer (some ⟨w.heap.size, 0, none⟩), .pointer (some ⟨w.heap.size + 1 + 1, 0, none⟩), .pointer (some ⟨W4.heap.size, 0, none⟩)]) := by rw [hW]; simp [go_sem]
 have hzz : W4.heap.size = w.heap.size + 4 := by omega
 have hsz : W4.heap.size < W.heap.size := by rw [hW]; simp
 have HK := hh_ (h.keep HB);have HW := hh_ hW;have HW4 := hh_ hW4;have HZ4 := hh_ hz4;have HZZ := hh_ hzz;have c0 : w.heap.size ≤ W.heap.size := by omega
 have c1 : w.heap.size < W4.heap.size := by omega
 clear hW hW4 h a2 a3 a4 hz4 hbW hzz;go_enter Tryz.func132, Tryz.ntmps132;go_upto_region 2 with (fail)
 rw [← HW4.out, HZ4.out];clear HW4;go_wp2_with fail
 rw [← HW.out];clear HW;refine (IsGraph_any sz A m c x W W.heap.size HK.rd nr_ hm).mono ?_;rw [ho];rintro e w1 ⟨rfl, hb1⟩;have HB1 : Hid (Below w.heap.size w w1) := HB.trans (hb1.mono c0);clear hb1 ho;go_wp2;go_ret2;exact ⟨rfl, HB1⟩
set_option maxRecDepth 100000 in
theorem bestOrder_no (sz : Int) (A : Option Addr) (m c : Nat) (x : Nat → Int) (fn : FuncId) (caps : Array Value) (w : World) (h : GA w A m c x) (ho : okB sz m x = false) (hm : m ≤ 1048576) :
 Calls Tryz.prog 84 #[.agg #[.int .i64 sz, .slice A m c], .func (.func fn) #[] caps] w fun e w' => e = .returned (.tuple #[.slice none 0 0, .int .i64 (-1)]) ∧ Below w.heap.size w w' := by
 obtain ⟨W, hW⟩ : ∃ W, W = (((w.alloc (Obj.cells #[.int .i64 sz, .slice A m c] 26)).alloc (Obj.cells #[.func (.func fn) #[] caps] 81)).alloc (Obj.cells #[.slice none 0 0] 24)).alloc (Obj.cells #[.int .i64 (-1)] 3) := ⟨_, rfl⟩;have HB : Hid (From w W) := by rw [hW]; exact (((From.alloc _ _).alloc_ _).alloc_ _).alloc_ _
 have hz : W.heap.size = w.heap.size + 4 := by rw [hW]; simp
 have e0 : W.cell? ⟨w.heap.size + 2, 0, none⟩ = some (.slice none 0 0) := by rw [hW]; simp [go_sem]
 have e1 : W.cell? ⟨w.heap.size + 3, 0, none⟩ = some (.int .i64 (-1)) := by rw [hW]; simp [go_sem]
 have HK := hh_ (h.keep HB.below);have HW := hh_ hW;have E0 := hh_ e0;have E1 := hh_ e1;clear hW h hz e0 e1;go_enter Tryz.func84, Tryz.ntmps84;go_wp2_with fail
 rw [← HW.out];clear HW;refine (firstList_no sz A m c x sz _ _ _ _ W HK ho hm).mono ?_;rintro e w1 ⟨rfl, hb1⟩;have r0 := up_ hb1 E0.out;have r1 := up_ hb1 E1.out;have HB1 := hh_ (HB.keep hb1);clear hb1 E0 E1 ho HB HK;go_wp2;go_region
 go_wp2;go_ret2;exact ⟨rfl, HB1.drew.below⟩
noncomputable def pfN (m : Nat) (r : Nat → Nat) (l : List Nat) : Int := ((fofL (m : Int) m (fun v => (r v : Int)) (l.map fun v : Nat => (v : Int))).length : Int)
set_option maxRecDepth 100000 in
theorem FewestFill1_i {A : Option Addr} {m c cl : Nat} {r : Nat → Nat} {Al : Option Addr} {l : List Nat} {w : World} (h : GV w A m c r) (hl : LN w Al cl l) (hlen : l.length ≤ 7) :
 Calls Tryz.prog 85 #[.agg #[.int .i64 m, .slice A m c], .slice Al l.length cl] w fun e w' => e = .returned (.int .i64 (pfN m r l)) ∧ Below w.heap.size w w' := by
 have hm7 := h.vg.n7;obtain ⟨W, hW⟩ : ∃ W, W = (w.alloc (Obj.cells #[.int .i64 m, .slice A m c] 26)) := ⟨_, rfl⟩;have HB : Hid (From w W) := by rw [hW]; exact From.alloc _ _
 have HK := hh_ (h.keep HB.below);have HL := hh_ (hl.keep HB.below);have HW := hh_ hW;obtain ⟨y, hy⟩ : ∃ y, y = pfN m r l := ⟨_, rfl⟩;rw [← hy];have HY := hh_ hy;clear hW h hl hy;go_enter Tryz.func85, Tryz.ntmps85;go_wp2_with fail
 rw [← HW.out];clear HW;refine (FillOf_i m A m c _ Al l.length cl _ W ⟨HK.rd⟩ HL.li (by omega) (by omega)).mono ?_;rintro e w1 ⟨A', c', D, rfl, hD, hO, hb1⟩;have hn : (D.length : Int) = y := by
  rw [HY.out]; unfold pfN; rw [← hD, lists, List.length_map]
 have HN := hh_ hn;have HB1 := hh_ (HB.keep hb1);clear hD hO hb1 hn;go_wp2;go_ret;exact ⟨ret_int HN.out, HB1.below⟩
noncomputable def ffN (m : Nat) (r : Nat → Nat) : Int := (boF (pfN m r) (visG m (fun _ => true) m [])).2
noncomputable def ffI (sz : Int) (m : Nat) (x : Nat → Int) : Int := if (okB sz m x && decide (m ≤ 5)) = true then ffN m (rw_ x) else -1
theorem ffI_no {sz : Int} {m : Nat} {x : Nat → Int} (h : okB sz m x = false) : ffI sz m x = -1 := by unfold ffI; rw [h]; rfl
theorem ffI_big {sz : Int} {m : Nat} {x : Nat → Int} (h : ¬ m ≤ 5) : ffI sz m x = -1 := by unfold ffI; rw [decide_eq_false h, Bool.and_false]; rfl
theorem ffI_yes {sz : Int} {m : Nat} {x : Nat → Int} (h : okB sz m x = true) (h5 : m ≤ 5) : ffI sz m x = ffN m (rw_ x) := by unfold ffI; rw [h, decide_eq_true h5]; rfl
set_option maxRecDepth 100000 in
theorem FewestFill_i (sz : Int) (A : Option Addr) (m c : Nat) (x : Nat → Int) (w : World) (h : GA w A m c x) (hm : m ≤ 1048576) :
 Calls Tryz.prog 30 #[.agg #[.int .i64 sz, .slice A m c]] w fun e w' => e = .returned (.int .i64 (ffI sz m x)) ∧ Below w.heap.size w w' := by
 obtain ⟨W, hW⟩ : ∃ W, W = (w.alloc (Obj.cells #[.int .i64 sz, .slice A m c] 26)) := ⟨_, rfl⟩;have HB : Hid (From w W) := by rw [hW]; exact From.alloc _ _
 have HK := hh_ (h.keep HB.below);have HW := hh_ hW;clear hW h;by_cases h5 : 5 < sz
 ·have hf : Hid (ffI sz m x = -1) := by
   cases ho : okB sz m x
   ·exact ffI_no ho
   ·obtain ⟨_, es, _, _⟩ := okB_ok' ho;exact ffI_big (by omega)
  go_enter Tryz.func30, Tryz.ntmps30;go_wp2;go_ret;exact ⟨ret_int hf.symm, (From.alloc _ _).below⟩
 ·have h6 : sz ≤ 5 := by omega
  clear h5;cases ho : okB sz m x
  ·have hf : Hid (ffI sz m x = -1) := ffI_no ho;have Ho := hh_ ho;clear ho;go_enter Tryz.func30, Tryz.ntmps30;go_wp2_with fail
   rw [← HW.out];clear HW;refine (bestOrder_no sz A m c x _ _ W HK Ho.out hm).mono ?_;rintro e w1 ⟨rfl, hb1⟩;have HB1 := hh_ (HB.keep hb1);clear hb1;go_wp2;go_ret;exact ⟨ret_int hf.symm, HB1.below⟩
  ·obtain ⟨_, es, vg0, hx0⟩ := okB_ok' ho;subst es;have hn7 := vg0.n7;have hf : Hid (ffN m (rw_ x) = ffI m m x) := (ffI_yes ho (by omega)).symm;have HG : Hid (GV W A m c (rw_ x)) := HK.gv ho;have KB := hh_ (bestOrder_g (fn := 85) (caps := #[]) (p := pfN m (rw_ x)) (ent_of Tryz.func85 (by kernel_rfl) rfl) W HG (fun l A' c' z hb hl hlen _ _ => FewestFill1_i (HG.keep hb) hl (by omega)));clear ho vg0 hx0;go_enter Tryz.func30, Tryz.ntmps30;go_wp2_with fail
   rw [← HW.out];clear HW;refine KB.mono ?_;rintro e w1 ⟨Ab, cb, rfl, ho, hb1⟩;have HB1 := hh_ (HB.keep hb1);clear hb1 ho;go_wp2;go_ret;exact ⟨ret_int hf.out, HB1.below⟩
def extN (n : Nat) (l : List Nat) : List (List Nat) := ((List.range n).filter fun v => !decide (v ∈ l)).map fun v => l ++ [v]
def ordN (n : Nat) : Nat → List (List Nat)
 | 0 => [[]]
 | k + 1 => (ordN n k).flatMap (extN n)
theorem snoc_cases {l : List Nat} {k : Nat} (h : l.length = k + 1) : ∃ a v, l = a ++ [v] ∧ a.length = k := by
 refine ⟨l.dropLast, l.getLast (by intro e; rw [e] at h; simp at h), (List.dropLast_concat_getLast _).symm, by rw [List.length_dropLast, h]; rfl⟩
theorem mem_ordN {n : Nat} : ∀ {k : Nat} {l : List Nat}, l ∈ ordN n k ↔ l.length = k ∧ l.Nodup ∧ ∀ v ∈ l, v < n := by
 intro k;induction k with
 | zero =>
   intro l;show l ∈ [[]] ↔ _;rw [List.mem_singleton];constructor
   ·rintro rfl; exact ⟨rfl, List.nodup_nil, fun v hv => by cases hv⟩
   ·intro h; exact List.eq_nil_of_length_eq_zero h.1
 | succ k ih =>
   intro l;show l ∈ (ordN n k).flatMap (extN n) ↔ _;rw [List.mem_flatMap];constructor
   ·rintro ⟨a, ha, hl⟩;obtain ⟨h1, h2, h3⟩ := ih.1 ha;unfold extN at hl;obtain ⟨v, hv, rfl⟩ := List.mem_map.1 hl;rw [List.mem_filter, List.mem_range] at hv;have hva : v ∉ a := by simpa using hv.2
    refine ⟨by rw [List.length_append, h1]; rfl, ?_, ?_⟩
    ·rw [List.nodup_append];exact ⟨h2, by simp, fun x hx y hy => by rw [List.mem_singleton] at hy; subst hy; exact fun e => hva (e ▸ hx)⟩
    ·intro u hu;rw [List.mem_append, List.mem_singleton] at hu;rcases hu with hu | rfl
     ·exact h3 u hu
     ·exact hv.1
   ·rintro ⟨h1, h2, h3⟩;obtain ⟨a, v, rfl, ha⟩ := snoc_cases h1;rw [List.nodup_append] at h2;refine ⟨a, ih.2 ⟨ha, h2.1, fun u hu => h3 u (List.mem_append_left _ hu)⟩, ?_⟩;unfold extN;refine List.mem_map.2 ⟨v, ?_, rfl⟩;rw [List.mem_filter, List.mem_range];refine ⟨h3 v (by simp), ?_⟩;have : v ∉ a := fun hm => h2.2.2 v hm v (by simp) rfl
    simpa using this
theorem mem_visG {m : Nat} : ∀ {k : Nat} {l q : List Nat}, l.Nodup → (q ∈ visG m (fun _ => true) k l ↔ ∃ t, q = l ++ t ∧ t.length = k ∧ q.Nodup ∧ ∀ v ∈ t, v < m) := by
 intro k;induction k with
 | zero =>
   intro l q hl;show q ∈ [l] ↔ _;rw [List.mem_singleton];constructor
   ·rintro rfl; exact ⟨[], by simp, rfl, hl, fun v hv => by cases hv⟩
   ·rintro ⟨t, rfl, ht, _, _⟩;rw [List.eq_nil_of_length_eq_zero ht]; simp
 | succ k ih =>
   intro l q hl;show q ∈ (List.range m).flatMap (fun v => if okG (fun _ => true) l v = true then visG m (fun _ => true) k (l ++ [v]) else []) ↔ _;rw [List.mem_flatMap];constructor
   ·rintro ⟨v, hv, hq⟩;rw [List.mem_range] at hv;split at hq
    ·rename_i hok;have hvl : v ∉ l := by unfold okG at hok; simpa using hok
     have hn : (l ++ [v]).Nodup := by
      rw [List.nodup_append];exact ⟨hl, by simp, fun x hx y hy => by rw [List.mem_singleton] at hy; subst hy; exact fun e => hvl (e ▸ hx)⟩
     obtain ⟨t, rfl, ht, hnd, htm⟩ := (ih hn).1 hq;refine ⟨v :: t, by simp, by simp [ht], hnd, ?_⟩;intro u hu;rw [List.mem_cons] at hu;rcases hu with rfl | hu
     ·exact hv
     ·exact htm u hu
    ·cases hq
   ·rintro ⟨t, rfl, ht, hnd, htm⟩;cases t with
    | nil => cases ht
    | cons v t =>
      have hvl : v ∉ l := by
       rw [List.nodup_append] at hnd;exact fun hm => hnd.2.2 v hm v (by simp) rfl
      refine ⟨v, List.mem_range.2 (htm v (by simp)), ?_⟩;have hok : okG (fun _ => true) l v = true := by unfold okG; simp [hvl]
      rw [if_pos hok];have hn : (l ++ [v]).Nodup := by
       rw [List.nodup_append];exact ⟨hl, by simp, fun x hx y hy => by rw [List.mem_singleton] at hy; subst hy; exact fun e => hvl (e ▸ hx)⟩
      exact (ih hn).2 ⟨t, by simp, by simpa using ht, hnd, fun u hu => htm u (by simp [hu])⟩
theorem visG_ordN {m : Nat} {q : List Nat} : q ∈ visG m (fun _ => true) m [] ↔ q ∈ ordN m m := by
 rw [mem_visG List.nodup_nil, mem_ordN];constructor
 ·rintro ⟨t, rfl, h1, h2, h3⟩; exact ⟨by simpa using h1, h2, by simpa using h3⟩
 ·rintro ⟨h1, h2, h3⟩; exact ⟨q, by simp, h1, h2, h3⟩
def isMin (p : List Nat → Int) (vis : List (List Nat)) (n : Int) : Prop := (∃ l ∈ vis, n = p l) ∧ ∀ l ∈ vis, n ≤ p l
theorem isMin_one {p : List Nat → Int} {L M : List (List Nat)} {a b : Int} (h : ∀ q, q ∈ L ↔ q ∈ M) (ha : isMin p L a) (hb : isMin p M b) : a = b := by
 obtain ⟨⟨l, hl, rfl⟩, ha2⟩ := ha;obtain ⟨⟨k, hk, rfl⟩, hb2⟩ := hb;exact Int.le_antisymm (ha2 k ((h k).2 hk)) (hb2 l ((h l).1 hl))
theorem boF_min {p : List Nat → Int} (hp : ∀ l, 0 ≤ p l) {vis : List (List Nat)} (hv : vis ≠ []) : isMin p vis (boF p vis).2 := by
 have key : ∀ (vis dn : List (List Nat)) (s : List Nat × Int), ((dn = [] ∧ s.2 = -1) ∨ isMin p dn s.2) → ((dn ++ vis = [] ∧ (vis.foldl (boS p) s).2 = -1) ∨ isMin p (dn ++ vis) (vis.foldl (boS p) s).2) := by
  intro vis;induction vis with
  | nil => intro dn s h; simpa using h
  | cons l vis ih =>
    intro dn s h;rw [List.foldl_cons, show dn ++ l :: vis = (dn ++ [l]) ++ vis by simp];refine ih (dn ++ [l]) (boS p s l) (.inr ?_);by_cases hc : s.2 < 0 ∨ p l < s.2
    ·rw [boS_yes hc];refine ⟨⟨l, by simp, rfl⟩, fun k hk => ?_⟩;rw [List.mem_append, List.mem_singleton] at hk;rcases hk with hk | rfl
     ·rcases h with ⟨rfl, _⟩ | ⟨⟨l0, _, e0⟩, h2⟩
      ·cases hk
      ·have := h2 k hk;have := hp l0;show p l ≤ p k;omega
     ·exact Int.le_refl _
    ·rw [boS_no hc];rcases h with ⟨_, e⟩ | ⟨⟨l0, h0, e0⟩, h2⟩
     ·omega
     ·refine ⟨⟨l0, List.mem_append_left _ h0, e0⟩, fun k hk => ?_⟩;rw [List.mem_append, List.mem_singleton] at hk;rcases hk with hk | rfl
      ·exact h2 k hk
      ·omega
 rcases key vis [] ([], -1) (.inl ⟨rfl, rfl⟩) with ⟨h, _⟩ | h
 ·exact absurd (by simpa using h) hv
 ·simpa [boF] using h
def mnF (p : List Nat → Int) (b : Int) (L : List (List Nat)) : Int := L.foldl (fun b l => min b (p l)) b
theorem mnF_one (p : List Nat → Int) (b : Int) (L : List (List Nat)) (l : List Nat) : mnF p b (L ++ [l]) = min (mnF p b L) (p l) := by unfold mnF; rw [List.foldl_append]; rfl
theorem mnF_min {p : List Nat → Int} {b : Int} {L : List (List Nat)} (hb : ∀ l, p l < b) (hL : L ≠ []) : isMin p L (mnF p b L) := by
 have key : ∀ (L dn : List (List Nat)) (s : Int), ((dn = [] ∧ s = b) ∨ isMin p dn s) → ((dn ++ L = [] ∧ mnF p s L = b) ∨ isMin p (dn ++ L) (mnF p s L)) := by
  intro L;induction L with
  | nil => intro dn s h; simpa [mnF] using h
  | cons l L ih =>
    intro dn s h;rw [show mnF p s (l :: L) = mnF p (min s (p l)) L from rfl, show dn ++ l :: L = (dn ++ [l]) ++ L by simp];refine ih (dn ++ [l]) _ (.inr ?_);rcases h with ⟨rfl, rfl⟩ | ⟨⟨l0, h0, e0⟩, h2⟩
    ·have := hb l;refine ⟨⟨l, by simp, by omega⟩, fun k hk => ?_⟩;simp at hk;subst hk; omega
    ·by_cases hc : p l < s
     ·refine ⟨⟨l, by simp, by omega⟩, fun k hk => ?_⟩;rw [List.mem_append, List.mem_singleton] at hk;rcases hk with hk | rfl
      ·have := h2 k hk; omega
      ·omega
     ·refine ⟨⟨l0, List.mem_append_left _ h0, by omega⟩, fun k hk => ?_⟩;rw [List.mem_append, List.mem_singleton] at hk;rcases hk with hk | rfl
      ·have := h2 k hk; omega
      ·omega
 rcases key L [] b (.inl ⟨rfl, rfl⟩) with ⟨h, _⟩ | h
 ·exact absurd (by simpa using h) hL
 ·simpa using h
theorem pfN_le {m : Nat} {r : Nat → Nat} {l : List Nat} (hm : m ≤ 7) : 0 ≤ pfN m r l ∧ pfN m r l ≤ 21 := by
 unfold pfN fofL;split
 ·have h1 := List.length_filter_le (pOpt fun v => (r v : Int)) (edAll (fun v => ((fl (rw_ fun v => (r v : Int)) (l.map fun v : Nat => (v : Int)) (l.map fun v : Nat => (v : Int)).length v : Nat) : Int)) m);have h2 := edAll_len (m := m) (x := fun v => ((fl (rw_ fun v => (r v : Int)) (l.map fun v : Nat => (v : Int)) (l.map fun v : Nat => (v : Int)).length v : Nat) : Int)) hm;omega
 ·simp
theorem ffN_eq {m : Nat} {r : Nat → Nat} (hm : m ≤ 7) {b : Int} (hb : 22 ≤ b) : mnF (pfN m r) b (ordN m m) = ffN m r := by
 have hr : List.range m ∈ ordN m m := mem_ordN.2 ⟨List.length_range, List.nodup_range, fun v hv => List.mem_range.1 hv⟩;have h1 : ordN m m ≠ [] := fun e => by rw [e] at hr; cases hr
 have h2 : visG m (fun _ => true) m [] ≠ [] := fun e => by have := visG_ordN.2 hr; rw [e] at this; cases this
 exact isMin_one (fun q => visG_ordN.symm) (mnF_min (fun l => by have := (pfN_le (r := r) (l := l) hm).2; omega) h1) (boF_min (fun l => (pfN_le (r := r) (l := l) hm).1) h2)
end Go.Proofs.YticadlkcjhglnaaGreat
