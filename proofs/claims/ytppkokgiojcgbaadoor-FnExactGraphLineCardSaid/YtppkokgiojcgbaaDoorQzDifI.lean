/-
  Contract: how many different numbers a list of colours has (the program's, by the library's sort).
-/
import Derived.Test.YtppkokgiojcgbaaDoorQzDifL
import Derived.Lib.SlicesCompact
import Derived.Test.YtppkokgiojcgbaaDoorQzFirst
import Derived.Test.YtppkokgiojcgbaaDoorQzColP
import Derived.Test.YtppkokgiojcgbaaDoorQzObsP
import Derived.Sort.OwnSortedInts
namespace Go.Proofs.YtppkokgiojcgbaaDoor
open Go.RowKit Go.Sort

theorem own_holds {w : World} {lo hi g n c : Nat} {e : TypeId} {ss : List Int} (h : Own w lo hi e 1 (some ⟨g, 0, none⟩) n c (fun j => .int .i64 (ss.getD j 0))) (hn : n = ss.length) : Holds (Value.int .i64) w g 0 ss.toArray := by
  intro j hj
  have hj' : j < ss.length := by simpa using hj
  obtain ⟨g', e1, _, _, _, hc, hf⟩ := h.at_ (by omega)
  simp only [Option.some.injEq, Addr.mk.injEq, and_true] at e1
  subst e1
  refine ⟨?_, hf _⟩
  rw [Nat.zero_add, hc j (by omega)]
  simp [hj', List.getD]
theorem below_put {w w1 : World} {q g : Nat} (h : Below q w w1) (hq : q ≤ g) (d : Array Int) (k : Nat) (os : Array Obj) (hw : q ≤ w1.heap.size) : Below q w (grow (putRow (Value.int .i64) (Sort.ahead w1 k) g 0 d) os) :=
  h.grown (grownBy_sortedI (w := w1) (n := k) (os := os) (g := g) d) hw (fun j hj => by
    simp only [Option.some.injEq] at hj
    omega)
theorem zs_own {w : World} {lo hi g c : Nat} {L : List Nat} (h : Own w lo hi 3 1 (some ⟨g, 0, none⟩) L.length c (ni L)) : Own w lo hi 3 1 (some ⟨g, 0, none⟩) L.length c (fun j => .int .i64 ((zl L).getD j 0)) :=
  h.congr fun j hj => by
    unfold ni
    rw [zl_getD]
set_option maxRecDepth 100000 in
set_option maxHeartbeats 1600000 in
theorem sorted_n {Al : Option Addr} {cl : Nat} {L : List Nat} {w : World} (h : LN w Al cl L) (h0 : 0 < L.length) (hlen : L.length ≤ 7) :
    Calls Tryd.prog 48 #[.slice Al L.length cl] w fun e w' => ∃ g c', w.heap.size ≤ g ∧ e = .returned (.slice (some ⟨g, 0, none⟩) L.length c') ∧ L.length ≤ c' ∧ Holds (Value.int .i64) w' g 0 ((zl L).mergeSort fun x y => decide (x ≤ y)).toArray ∧ Below w.heap.size w w' := by
  obtain ⟨b, o, rfl⟩ := h.addr h0
  have KC := Lib.hid (clone_n b o cl L w h.rd (List.length_pos_iff.1 h0) hlen)
  have HB0 : Hid (From w w) := From.refl w
  clear h
  go_enter Tryd.func48, Tryd.ntmps48
  go_wp2_with fail
  refine KC.out.mono ?_
  rintro e w1 ⟨g, c', rfl, ho, hb1⟩
  obtain ⟨g', cur, e1, hg1, hg2, hg3, hnc, hcm, hcs, hx⟩ : ∃ g' cur, some ({ block := g, off := 0 } : Addr) = some ⟨g', 0, none⟩ ∧ w.heap.size ≤ g' ∧ g' < w1.heap.size ∧ w1.heap[g']? = some (.cells cur 3 (0, 0)) ∧ L.length ≤ c' ∧ c' ≤ maxLen ∧ cur.size = c' * 1 ∧ ∀ j, j < L.length * 1 → cur[j]? = some (ni L j) := by
    rcases ho with ⟨h, _⟩ | h
    · cases h
    · exact h
  simp only [Option.some.injEq, Addr.mk.injEq, and_true] at e1
  subst e1
  have hz : (zl L).length = L.length := zl_len L
  have HH : Hid (Holds (Value.int .i64) w1 g 0 (zl L).toArray) := own_holds (zs_own ho) hz.symm
  have KS := Lib.hid (sort_int g 0 c' (zl L) w1 HH.out hg2 (by omega))
  rw [hz] at KS
  have HB1 : Hid (From w w1) := ⟨hb1⟩
  have hms : ((zl L).mergeSort fun x y => decide (x ≤ y)).length = (zl L).length := by simp
  have HR : Hid (∀ (k : Nat) (os : Array Obj), Holds (Value.int .i64) (grow (putRow (Value.int .i64) (Sort.ahead w1 k) g 0 ((zl L).mergeSort fun x y => decide (x ≤ y)).toArray) os) g 0 ((zl L).mergeSort fun x y => decide (x ≤ y)).toArray) := fun k os => by
    have h1 := heap_sortedI (n := k) (os := os) ((zl L).mergeSort fun x y => decide (x ≤ y)).toArray hg3
    exact holds_of_blockI h1 (take_putCellsI cur _ (by omega))
  have HP : Hid (∀ (k : Nat) (os : Array Obj), Below w.heap.size w (grow (putRow (Value.int .i64) (Sort.ahead w1 k) g 0 ((zl L).mergeSort fun x y => decide (x ≤ y)).toArray) os)) := fun k os => below_put hb1 hg1 _ _ _ hb1.size
  clear ho hb1 hx hcs hg3 hms hz
  go_wp2_with fail
  refine KS.out.mono ?_
  rintro e w2 ⟨rfl, k, os, rfl⟩
  go_wp2
  go_ret
  exact ⟨g, c', hg1, rfl, hnc, HR.out k os, HP.out k os⟩
end Go.Proofs.YtppkokgiojcgbaaDoor
