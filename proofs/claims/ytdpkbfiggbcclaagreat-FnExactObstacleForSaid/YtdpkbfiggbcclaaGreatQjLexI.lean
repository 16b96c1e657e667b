/-
  Contracts: a greedy order, whatever its number is; the lexicographic order: the program's.
-/
import Derived.Test.YtdpkbfiggbcclaaGreatQjGL
import Derived.Test.YtdpkbfiggbcclaaGreatQjFillOI
import Derived.Test.YtdpkbfiggbcclaaGreatQjGC
namespace Go.Proofs.YtdpkbfiggbcclaaGreat
open Go.RowKit

/-- Are all of a list vertices? -/
def ivB (sz : Int) (l : List Int) : Bool := l.all fun v => decide (0 ≤ v ∧ v < sz)
theorem ivB_no {sz : Int} {l : List Int} {k : Nat} (hk : k < l.length) (h : ¬(0 ≤ l.getD k 0 ∧ l.getD k 0 < sz)) : ivB sz l = false := by
  unfold ivB
  rw [List.all_eq_false]
  exact ⟨l.getD k 0, getD_mem hk, by simpa using h⟩
theorem ivB_yes {sz : Int} {l : List Int} (h : ∀ k, k < l.length → 0 ≤ l.getD k 0 ∧ l.getD k 0 < sz) : ivB sz l = true := by
  unfold ivB
  rw [List.all_eq_true]
  intro v hv
  obtain ⟨i, hi, rfl⟩ := List.mem_iff_getElem.1 hv
  have := h i hi
  simpa [List.getD, hi] using this
set_option maxHeartbeats 1000000 in
theorem isVertex_z (sz : Int) (A : Option Addr) (m c : Nat) (x : Nat → Int) (Al : Option Addr) (n cl : Nat) (l : List Int) (w : World) (h : GA w A m c x) (hl : LI w Al n cl l) (hm : m ≤ 1048576) (hn : n ≤ 1048576) :
    Calls Tryz.prog 305 #[.agg #[.int .i64 sz, .slice A m c], .slice Al n cl] w fun e w' => e = .returned (.bool (ivB sz l && okB sz m x)) ∧ Below w.heap.size w w' := by
  obtain ⟨W, hW⟩ : ∃ W : World, W = (w.alloc (Obj.cells #[Value.int IntKind.i64 sz, Value.slice A m c] 28)) := ⟨_, rfl⟩
  have HB : Hid (From w W) := by rw [hW]; exact From.alloc _ _
  have HK := Lib.hid (h.keep HB.out.below)
  have HL := Lib.hid (hl.keep HB.out.below)
  have HC : Hid (GC W w.heap.size sz A m c) := by rw [hW]; exact GC.new _ _ _ _ _
  have HW := Lib.hid hW
  have HN := Lib.hid hl.len
  have e0 := HC.out.c0
  have e1 := HC.out.c1
  clear hW h hl
  cases ho : okB sz m x
  · have Ho := Lib.hid ho
    clear ho
    go_enter Tryz.func305, Tryz.ntmps305
    go_wp2
    rw [← HW.out]
    clear HW
    go_loop [9] (fun i => ∃ k : Nat, k ≤ n ∧ i = .int .i64 k) (fun i => n - (intOf i).toNat)
    case atStart => exact ⟨0, Nat.zero_le _, rfl⟩
    case round =>
      obtain ⟨k, hk, rfl⟩ := hrel
      by_cases hlt : k < n
      · obtain ⟨b, o, rfl⟩ := HL.out.addr (by omega)
        have q0 := HL.out.at hlt
        obtain ⟨u, hu⟩ : ∃ u : Int, u = l.getD k 0 := ⟨_, rfl⟩
        rw [← hu] at q0
        have i1 : (k : Int) < (n : Int) := by omega
        clear hu
        by_cases hr : 0 ≤ u ∧ u ≤ wrap64 (sz - 1)
        · obtain ⟨r1, r2⟩ := hr
          go_wp2_with (first | (go_at_call 193; refine (within_yes _ _ _ _ r1 r2).mono ?_; rintro e w' ⟨rfl, rfl⟩))
          go_round
          case rel => exact ⟨k + 1, by omega, by go_num⟩
          case measure => simp [intOf]; omega
        · have hr' : Hid (u < 0 ∨ wrap64 (sz - 1) < u) := by show _ ∨ _; omega
          clear hr
          go_wp2_with (first | (go_at_call 193; refine (within_no _ _ _ _ hr'.out).mono ?_; rintro e w' ⟨rfl, rfl⟩))
          go_ret
          exact ⟨ret_bool (Bool.and_false _).symm, HB.out.below⟩
      · have i1 : (n : Int) ≤ (k : Int) := by omega
        go_wp2_with fail
        refine (IsGraph_any sz A m c x W W.heap.size HK.out.rd (Nat.le_refl _) hm).mono ?_
        rintro e w1 ⟨rfl, hb1⟩
        rw [Ho.out]
        have HB1 := Lib.hid (HB.out.keep hb1)
        clear hb1
        go_wp2
        go_ret
        exact ⟨ret_bool (Bool.and_false _).symm, HB1.out.below⟩
  · obtain ⟨_, es, vg0, _⟩ := okB_ok' ho
    subst es
    have hn7 := vg0.n7
    rw [← ho]
    clear ho vg0
    go_enter Tryz.func305, Tryz.ntmps305
    go_wp2
    rw [← HW.out]
    clear HW
    go_loop [9] (fun i => ∃ k : Nat, k ≤ n ∧ i = .int .i64 k ∧ Hid (∀ j, j < k → 0 ≤ l.getD j 0 ∧ l.getD j 0 < (m : Int))) (fun i => n - (intOf i).toNat)
    case atStart => exact ⟨0, Nat.zero_le _, rfl, fun v hv => absurd hv (by omega)⟩
    case round =>
      obtain ⟨k, hk, rfl, hall⟩ := hrel
      by_cases hlt : k < n
      · obtain ⟨b, o, rfl⟩ := HL.out.addr (by omega)
        have q0 := HL.out.at hlt
        obtain ⟨u, hu⟩ : ∃ u : Int, u = l.getD k 0 := ⟨_, rfl⟩
        rw [← hu] at q0
        have Hu := Lib.hid hu
        have i1 : (k : Int) < (n : Int) := by omega
        clear hu
        by_cases hr : 0 ≤ u ∧ u < (m : Int)
        · have Hr := Lib.hid hr
          obtain ⟨r1, r2⟩ := hr
          go_wp2_with (first | (go_at_call 193; refine (within_yes _ _ _ _ r1 (by omega)).mono ?_; rintro e w' ⟨rfl, rfl⟩))
          go_round
          case rel =>
            refine ⟨k + 1, by omega, by go_num, fun j hj => ?_⟩
            by_cases hjk : j < k
            · exact hall.out j hjk
            · obtain rfl : j = k := by omega
              rw [← Hu.out]; exact Hr.out
          case measure => simp [intOf]; omega
        · have hno : Hid (ivB (m : Int) l = false) := ivB_no (k := k) (by rw [← HN.out]; exact hlt) (by rw [← Hu.out]; exact hr)
          have hr' : Hid (u < 0 ∨ (m : Int) - 1 < u) := by show _ ∨ _; omega
          clear hr
          go_wp2_with (first | (go_at_call 193; refine (within_no _ _ _ _ hr'.out).mono ?_; rintro e w' ⟨rfl, rfl⟩))
          go_ret
          exact ⟨ret_bool (by rw [hno.out]; rfl), HB.out.below⟩
      · have hyes : Hid (ivB (m : Int) l = true) := ivB_yes fun j hj => hall.out j (by rw [← HN.out] at hj; omega)
        have i1 : (n : Int) ≤ (k : Int) := by omega
        clear hall
        go_wp2_with fail
        refine (IsGraph_any (m : Int) A m c x W W.heap.size HK.out.rd (Nat.le_refl _) hm).mono ?_
        rintro e w1 ⟨rfl, hb1⟩
        have HB1 := Lib.hid (HB.out.keep hb1)
        clear hb1
        go_wp2
        go_ret
        exact ⟨ret_bool (by rw [hyes.out]; rfl), HB1.out.below⟩
theorem own_1 (w : World) (v : Int) : Own (w.alloc (Obj.cells #[.int .i64 v] 3)) w.heap.size (w.heap.size + 1) 3 1 (some ⟨w.heap.size, 0, none⟩) 1 1 (fun _ => .int .i64 v) :=
  .inr ⟨w.heap.size, #[.int .i64 v], rfl, Nat.le_refl _, Nat.lt_succ_self _, heap_alloc_new w _, Nat.le_refl _, by unfold maxLen; omega, rfl, fun j hj => by
    have e : j = 0 := by omega
    subst e; rfl⟩
theorem one_on (z : World) (v : Nat) : ON z.heap.size (z.alloc (Obj.cells #[Value.int .i64 (v : Int)] 3)) (some ⟨z.heap.size, 0, none⟩) 1 [v] :=
  ⟨((own_1 z (v : Int)).mono (Nat.le_refl _) (by simp)).congr (fun j hj => by
    have : j = 0 := by simp at hj; omega
    subst this; rfl)⟩

section
variable {A : Option Addr} {m c : Nat} {r : Nat → Nat} {fn : FuncId} {caps : Array Value} {f : List Nat → Nat → Nat}
end
end Go.Proofs.YtdpkbfiggbcclaaGreat
