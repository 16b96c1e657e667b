/-
  Contracts: the neighbours of a vertex that stand behind it in an order: both programs'.
-/
import Derived.Test.YtjonhbmgmamchaaGreatDoorRdListS
namespace Go.Proofs.YtjonhbmgmamchaaGreatDoor
open Go.RowKit

theorem orB_parts {sz : Int} {m : Nat} {x : Nat → Int} {l : List Int} (h : orB sz m x l = true) : okB sz m x = true ∧ VZ m l ∧ l.length = m := by
  unfold orB vrB at h
  simp only [Bool.and_eq_true, decide_eq_true_eq] at h
  exact ⟨h.1.1, vzB_iff.1 h.1.2, h.2⟩
/-- An order has every vertex. -/
theorem VZ.all {m : Nat} {l : List Int} (h : VZ m l) (hl : l.length = m) {v : Int} (h0 : 0 ≤ v) (h1 : v < m) : v ∈ l := by
  refine Classical.byContradiction fun hn => ?_
  have : VZ m (v :: l) := ⟨List.nodup_cons.2 ⟨hn, h.1⟩, fun u hu => by
    rw [List.mem_cons] at hu
    rcases hu with rfl | hu
    · exact ⟨h0, h1⟩
    · exact h.2 u hu⟩
  have := this.len
  rw [List.length_cons] at this
  omega
theorem VZ.drop {m : Nat} {l : List Int} (h : VZ m l) (k : Nat) : VZ m (l.drop k) := ⟨h.1.sublist (List.drop_sublist _ _), fun v hv => h.2 v (List.mem_of_mem_drop hv)⟩
/-- The place of a number. -/
def ixN (l : List Int) (v : Int) : Nat := (fIdx (fun j => l.getD j 0 == v) l.length).toNat
theorem ixN_in {l : List Int} {v : Int} (h : v ∈ l) : ixN l v < l.length ∧ fIdx (fun j => l.getD j 0 == v) l.length = (ixN l v : Int) ∧ l.getD (ixN l v) 0 = v ∧ ∀ j, j < ixN l v → l.getD j 0 ≠ v := by
  obtain ⟨k, hk, e⟩ := fIdz_in h
  have e2 : ixN l v = k := by unfold ixN; rw [e]; rfl
  rw [e2]
  refine ⟨hk, e, ?_⟩
  unfold fIdx at e
  cases hf : (List.range l.length).find? (fun j => l.getD j 0 == v) with
  | none => rw [hf] at e; simp at e
  | some j =>
    rw [hf] at e
    have : j = k := by have h := e; simp at h; omega
    subst this
    rw [List.find?_range_eq_some] at hf
    exact ⟨by simpa using hf.1, fun i hi => by simpa using hf.2.2 i hi⟩
/-- The later neighbours, in an order of a valid graph. -/
def ltN (r : Nat → Nat) (l : List Int) (v : Int) : Nat := r v.toNat &&& stN (l.drop (ixN l v))
noncomputable def ltZ (sz : Int) (m : Nat) (x : Nat → Int) (l : List Int) (v : Int) : Nat := if (orB sz m x l && decide (0 ≤ v ∧ v < m)) = true then ltN (rw_ x) l v else 0
theorem ltZ_yes {sz : Int} {m : Nat} {x : Nat → Int} {l : List Int} {v : Int} (h : orB sz m x l = true) (hv : 0 ≤ v ∧ v < m) : ltZ sz m x l v = ltN (rw_ x) l v := by
  unfold ltZ; rw [h, decide_eq_true hv]; rfl
theorem ltZ_no {sz : Int} {m : Nat} {x : Nat → Int} {l : List Int} {v : Int} (h : orB sz m x l = false) : ltZ sz m x l v = 0 := by unfold ltZ; rw [h]; rfl
theorem ltZ_out {sz : Int} {m : Nat} {x : Nat → Int} {l : List Int} {v : Int} (h : ¬(0 ≤ v ∧ v < m)) : ltZ sz m x l v = 0 := by unfold ltZ; rw [decide_eq_false h, Bool.and_false]; rfl
theorem LI.drop {w : World} {b o n c k : Nat} {l : List Int} (h : LI w (some ⟨b, o, none⟩) n c l) (hk : k < n) : LI w (some ⟨b, o + k, none⟩) (n - k) (c - k) (l.drop k) :=
  ⟨by rw [List.length_drop, ← h.len], by have := h.rd.1; omega, fun hn => by
    obtain ⟨b', o', e, hb, hc⟩ := h.rd.2 (by omega)
    simp only [Option.some.injEq, Addr.mk.injEq, and_true] at e
    obtain ⟨rfl, rfl⟩ := e
    refine ⟨b, o + k, rfl, hb, fun j hj => ?_⟩
    rw [Nat.add_assoc, hc (k + j) (by omega)]
    simp [List.getD]⟩

set_option maxHeartbeats 1600000 in
theorem LaterNeighbours_i (sz : Int) (A : Option Addr) (m c : Nat) (x : Nat → Int) (Al : Option Addr) (n cl : Nat) (l : List Int) (v : Int) (w : World) (h : GA w A m c x) (hl : LI w Al n cl l) (hm : m ≤ 1048576) (hn : n ≤ 1048576) :
    Calls Tryz.prog 104 #[.agg #[.int .i64 sz, .slice A m c], .slice Al n cl, .int .i64 v] w fun e w' => e = .returned (.int .i64 (ltZ sz m x l v : Nat)) ∧ Below w.heap.size w w' := by
  obtain ⟨W, hW⟩ : ∃ W : World, W = (w.alloc (Obj.cells #[Value.int IntKind.i64 sz, Value.slice A m c] 27)) := ⟨_, rfl⟩
  have HB : Hid (From w W) := by rw [hW]; exact From.alloc _ _
  have HK := Lib.hid (h.keep HB.out.below)
  have HL := Lib.hid (hl.keep HB.out.below)
  have HC : Hid (GC W w.heap.size sz A m c) := by rw [hW]; exact GC.new _ _ _ _ _
  have HW := Lib.hid hW
  have HN := Lib.hid hl.len
  clear hW h hl
  go_enter Tryz.func104, Tryz.ntmps104
  have e0 := HC.out.c0
  have e1 := HC.out.c1
  go_wp2_with fail
  rw [← HW.out]
  refine (IsOrder_z sz A m c x Al n cl l W HK.out HL.out hm hn).mono ?_
  rintro e w1 ⟨rfl, hb1⟩
  clear HW
  clear e0 e1
  replace HB := Lib.hid (HB.out.keep hb1)
  replace HK := Lib.hid (HK.out.keep hb1)
  replace HL := Lib.hid (HL.out.keep hb1)
  replace HC := Lib.hid (HC.out.keep hb1)
  clear hb1
  have e0 := HC.out.c0
  have e1 := HC.out.c1
  cases hv : orB sz m x l
  · have hno : Hid (ltZ sz m x l v = 0) := ltZ_no hv
    clear hv
    go_wp2
    go_ret
    exact ⟨ret_int (by rw [hno.out]; rfl), HB.out.below⟩
  · obtain ⟨ho, hV, hlen⟩ := orB_parts hv
    obtain ⟨_, es, vg0, _⟩ := okB_ok' ho
    subst es
    have hn1 := vg0.n1
    have hn7 := vg0.n7
    have Hv := Lib.hid hv
    have HG : Hid (GV w1 A m c (rw_ x)) := HK.out.gv ho
    by_cases hr : 0 ≤ v ∧ v < (m : Int)
    · obtain ⟨r1, r2⟩ := hr
      obtain ⟨h1, h2, h3, _⟩ := ixN_in (hV.all hlen r1 r2)
      have hyes : Hid (ltZ (m : Int) m x l v = ltN (rw_ x) l v) := ltZ_yes hv ⟨r1, r2⟩
      obtain ⟨k, hk⟩ : ∃ k, k = ixN l v := ⟨_, rfl⟩
      rw [← hk] at h1 h2
      have hkn : k < n := by rw [HN.out]; exact h1
      obtain ⟨b, o, rfl⟩ := HL.out.addr (by omega)
      obtain ⟨b2, o2, rfl⟩ := HG.out.addr
      obtain ⟨u, rfl⟩ := Int.eq_ofNat_of_zero_le r1
      have hu : u < m := by omega
      have q0 := HG.out.row hu
      have hr128 := HG.out.vg.lt128 hu
      have hd := hV.drop k
      have hlt := stN_lt hd.2
      have h128 := two_pow_le hn7
      have E := i64_and_nat (rw_ x u) (stN (l.drop k)) (by omega) (by omega)
      have he : Hid (rw_ x u &&& stN (l.drop k) = ltZ (m : Int) m x l u) := by show _ = _; rw [hyes.out, hk]; rfl
      have h7 : vzB 7 (l.drop k) = true := vzB_yes ⟨hd.1, fun v hv => by have := hd.2 v hv; omega⟩
      have hz : Hid (soN (l.drop k) = (stN (l.drop k) : Int)) := soN_yes h7
      have hcap := HL.out.rd.1
      have i1 : (0 : Int) ≤ (k : Int) := by omega
      have i2 : (k : Int) ≤ (n : Int) := by omega
      have i3 : (u : Int) < (m : Int) := r2
      have hci : (cl = k) = False := by simp; omega
      have HD := Lib.hid (HL.out.drop hkn)
      have KI := Lib.hid (Index_z (some ⟨b, o, none⟩) n cl l u w1 HL.out hn)
      rw [h2] at KI
      have KS := Lib.hid (SetOf_i (some ⟨b, o + k, none⟩) (n - k) (cl - k) (l.drop k) w1 HD.out (by omega))
      rw [h7, hz.out] at KS
      rw [he.out] at E
      clear hV hlen h1 h2 h3 hk hd h7 ho hv vg0
      go_wp2_with (first | (go_at_call 57; refine (within_yes _ _ _ _ r1 (by omega)).mono ?_; rintro e w' ⟨rfl, rfl⟩) | (go_at_call 101; with_reducible refine KI.out.mono ?_; rintro e w' ⟨rfl, rfl⟩) | (go_at_call 115; with_reducible refine KS.out.mono ?_; rintro e w' ⟨rfl, rfl⟩))
      go_ret
      exact ⟨rfl, HB.out.below⟩
    · have hno : Hid (ltZ (m : Int) m x l v = 0) := ltZ_out hr
      have hr' : Hid (v < 0 ∨ (m : Int) - 1 < v) := by show _ ∨ _; omega
      clear hr hv hV hlen ho vg0
      go_wp2_with (first | (go_at_call 57; refine (within_no _ _ _ _ hr'.out).mono ?_; rintro e w' ⟨rfl, rfl⟩))
      go_ret
      exact ⟨ret_int (by rw [hno.out]; rfl), HB.out.below⟩

end Go.Proofs.YtjonhbmgmamchaaGreatDoor
