/-
  Several texts in one.
-/
import Derived.Test.YtncjfgebolikoaaQsListS
/-
  Contracts: the first place of a list at which something holds, whatever it is.
-/
namespace Go.Proofs.Ytncjfgebolikoaa
open Go.RowKit

theorem LN.li {w : World} {A : Option Addr} {c : Nat} {l : List Nat} (h : LN w A c l) : LI w A l.length c (l.map fun v : Nat => (v : Int)) :=
  ⟨by simp, h.rd.congr fun k hk => by simp [List.getD, hk]⟩
section
variable {fn : FuncId} {caps : Array Value} {p : Int → Bool}
end
end Go.Proofs.Ytncjfgebolikoaa

/-
  Contracts: the neighbours of a vertex that stand behind it in an order: both programs'.
-/
namespace Go.Proofs.Ytncjfgebolikoaa
open Go.RowKit

theorem orB_parts {sz : Int} {m : Nat} {x : Nat → Int} {l : List Int} (h : orB sz m x l = true) : okB sz m x = true ∧ VZ m l ∧ l.length = m := by
  unfold orB vrB at h
  simp only [Bool.and_eq_true, decide_eq_true_eq] at h
  exact ⟨h.1.1, vzB_iff.1 h.1.2, h.2⟩
/-- An order has every vertex. -/
theorem VZ.all {m : Nat} {l : List Int} (h : VZ m l) (hl : l.length = m) {v : Int} (h0 : 0 ≤ v) (h1 : v < m) : v ∈ l := by
  refine Classical.byContradiction fun hn => ?_
  have : VZ m (v :: l) := ⟨List.nodup_cons.2 ⟨hn, h.1⟩, fun u hu => by
    rw [List.mem_cons] at hu
    rcases hu with rfl | hu
    · exact ⟨h0, h1⟩
    · exact h.2 u hu⟩
  have := this.len
  rw [List.length_cons] at this
  omega
theorem stN_all {m : Nat} {l : List Int} (h : VZ m l) (hl : l.length = m) : stN l = 2 ^ m - 1 := by
  apply Nat.eq_of_testBit_eq
  intro i
  rw [Nat.testBit_two_pow_sub_one, Bool.eq_iff_iff, stN_bit (fun v hv => (h.2 v hv).1), decide_eq_true_eq]
  constructor
  · intro hi; have := (h.2 _ hi).2; omega
  · intro hi; exact h.all hl (by omega) (by omega)
theorem drop_consz {l : List Int} {k : Nat} (hk : k < l.length) : l.drop k = l.getD k 0 :: l.drop (k + 1) := by
  rw [List.drop_eq_getElem_cons hk]
  simp [List.getD, hk]
theorem VZ.drop {m : Nat} {l : List Int} (h : VZ m l) (k : Nat) : VZ m (l.drop k) := ⟨h.1.sublist (List.drop_sublist _ _), fun v hv => h.2 v (List.mem_of_mem_drop hv)⟩
theorem stN_drop {m : Nat} {l : List Int} {k : Nat} (h : VZ m l) (hk : k < l.length) : stN (l.drop k) = stN (l.drop (k + 1)) + 2 ^ (l.getD k 0).toNat := by
  have hd := h.drop k
  rw [drop_consz hk] at hd ⊢
  have hn := (List.nodup_cons.1 hd.1).1
  have h0 := (hd.2 _ (List.mem_cons_self)).1
  have hb : (stN (l.drop (k + 1))).testBit (l.getD k 0).toNat = false := by
    cases hb : (stN (l.drop (k + 1))).testBit (l.getD k 0).toNat
    · rfl
    · rw [stN_bit (fun v hv => (hd.2 v (List.mem_cons_of_mem _ hv)).1), Int.toNat_of_nonneg h0] at hb
      exact absurd hb hn
  rw [or_of_add hb, stN, Nat.or_comm]
/-- The place of a number. -/
def ixN (l : List Int) (v : Int) : Nat := (fIdx (fun j => l.getD j 0 == v) l.length).toNat
theorem ixN_in {l : List Int} {v : Int} (h : v ∈ l) : ixN l v < l.length ∧ fIdx (fun j => l.getD j 0 == v) l.length = (ixN l v : Int) ∧ l.getD (ixN l v) 0 = v ∧ ∀ j, j < ixN l v → l.getD j 0 ≠ v := by
  obtain ⟨k, hk, e⟩ := fIdz_in h
  have e2 : ixN l v = k := by unfold ixN; rw [e]; rfl
  rw [e2]
  refine ⟨hk, e, ?_⟩
  unfold fIdx at e
  cases hf : (List.range l.length).find? (fun j => l.getD j 0 == v) with
  | none => rw [hf] at e; simp at e
  | some j =>
    rw [hf] at e
    have : j = k := by have h := e; simp at h; omega
    subst this
    rw [List.find?_range_eq_some] at hf
    exact ⟨by simpa using hf.1, fun i hi => by simpa using hf.2.2 i hi⟩
/-- The later neighbours, in an order of a valid graph. -/
def ltN (r : Nat → Nat) (l : List Int) (v : Int) : Nat := r v.toNat &&& stN (l.drop (ixN l v))
noncomputable def ltZ (sz : Int) (m : Nat) (x : Nat → Int) (l : List Int) (v : Int) : Nat := if (orB sz m x l && decide (0 ≤ v ∧ v < m)) = true then ltN (rw_ x) l v else 0
theorem ltZ_yes {sz : Int} {m : Nat} {x : Nat → Int} {l : List Int} {v : Int} (h : orB sz m x l = true) (hv : 0 ≤ v ∧ v < m) : ltZ sz m x l v = ltN (rw_ x) l v := by
  unfold ltZ; rw [h, decide_eq_true hv]; rfl
theorem ltZ_no {sz : Int} {m : Nat} {x : Nat → Int} {l : List Int} {v : Int} (h : orB sz m x l = false) : ltZ sz m x l v = 0 := by unfold ltZ; rw [h]; rfl
theorem ltZ_out {sz : Int} {m : Nat} {x : Nat → Int} {l : List Int} {v : Int} (h : ¬(0 ≤ v ∧ v < m)) : ltZ sz m x l v = 0 := by unfold ltZ; rw [decide_eq_false h, Bool.and_false]; rfl
theorem LI.drop {w : World} {b o n c k : Nat} {l : List Int} (h : LI w (some ⟨b, o, none⟩) n c l) (hk : k < n) : LI w (some ⟨b, o + k, none⟩) (n - k) (c - k) (l.drop k) :=
  ⟨by rw [List.length_drop, ← h.len], by have := h.rd.1; omega, fun hn => by
    obtain ⟨b', o', e, hb, hc⟩ := h.rd.2 (by omega)
    simp only [Option.some.injEq, Addr.mk.injEq, and_true] at e
    obtain ⟨rfl, rfl⟩ := e
    refine ⟨b, o + k, rfl, hb, fun j hj => ?_⟩
    rw [Nat.add_assoc, hc (k + j) (by omega)]
    simp [List.getD]⟩

set_option maxHeartbeats 1600000 in
theorem LaterNeighbours_s (sz : Int) (A : Option Addr) (m c : Nat) (x : Nat → Int) (Al : Option Addr) (n cl : Nat) (l : List Int) (v : Int) (w : World) (h : GA w A m c x) (hl : LI w Al n cl l) (hm : m ≤ 1048576) (hn : n ≤ 1048576) :
    Calls Try.prog 90 #[.agg #[.int .i64 sz, .slice A m c], .slice Al n cl, .int .i64 v] w fun e w' => e = .returned (.int .i64 (ltZ sz m x l v : Nat)) ∧ Below w.heap.size w w' := by
  obtain ⟨W, hW⟩ : ∃ W : World, W = (w.alloc (Obj.cells #[Value.int IntKind.i64 sz, Value.slice A m c] 26)) := ⟨_, rfl⟩
  have HB : Hid (From w W) := by rw [hW]; exact From.alloc _ _
  have HK := Lib.hid (h.keep HB.out.below)
  have HL := Lib.hid (hl.keep HB.out.below)
  have HC : Hid (GC W w.heap.size sz A m c) := by rw [hW]; exact GC.new _ _ _ _ _
  have HW := Lib.hid hW
  have HN := Lib.hid hl.len
  clear hW h hl
  go_enter Try.func90, Try.ntmps90
  have e0 := HC.out.c0
  have e1 := HC.out.c1
  go_wp2_with fail
  rw [← HW.out]
  refine (IsOrder_sz sz A m c x Al n cl l W HK.out HL.out hm hn).mono ?_
  rintro e w1 ⟨rfl, hb1⟩
  clear HW
  clear e0 e1
  replace HB := Lib.hid (HB.out.keep hb1)
  replace HK := Lib.hid (HK.out.keep hb1)
  replace HL := Lib.hid (HL.out.keep hb1)
  replace HC := Lib.hid (HC.out.keep hb1)
  clear hb1
  have e0 := HC.out.c0
  have e1 := HC.out.c1
  cases hv : orB sz m x l
  · have hno : Hid (ltZ sz m x l v = 0) := ltZ_no hv
    clear hv
    go_wp2
    go_ret
    exact ⟨ret_int (by rw [hno.out]; rfl), HB.out.below⟩
  · obtain ⟨ho, hV, hlen⟩ := orB_parts hv
    obtain ⟨_, es, vg0, _⟩ := okB_ok' ho
    subst es
    have hn1 := vg0.n1
    have hn7 := vg0.n7
    have HG : Hid (GV w1 A m c (rw_ x)) := HK.out.gv ho
    by_cases hr : 0 ≤ v ∧ v < (m : Int)
    · obtain ⟨r1, r2⟩ := hr
      obtain ⟨h1, _, h3, h4⟩ := ixN_in (hV.all hlen r1 r2)
      have hyes : Hid (ltZ (m : Int) m x l v = ltN (rw_ x) l v) := ltZ_yes hv ⟨r1, r2⟩
      obtain ⟨K, hK⟩ : ∃ K, K = ixN l v := ⟨_, rfl⟩
      rw [← hK] at h1 h3 h4
      have hKn : K < n := by rw [HN.out]; exact h1
      obtain ⟨b, o, rfl⟩ := HL.out.addr (by omega)
      obtain ⟨b2, o2, rfl⟩ := HG.out.addr
      obtain ⟨u, rfl⟩ := Int.eq_ofNat_of_zero_le r1
      have hu : u < m := by omega
      have q0 := HG.out.row hu
      have hr128 := HG.out.vg.lt128 hu
      have h128 := two_pow_le hn7
      have p1 := pow_shl m hn7
      have hpc := pow_cast m
      have hpos := Nat.two_pow_pos m
      have hall := stN_all hV hlen
      have s0 : (2 : Int) ^ m - 1 = (stN (l.drop 0) : Int) := by
        rw [List.drop_zero, hall]; omega
      have S0 : Hid (wrap64 (stN l : Int) = (stN (l.drop 0) : Int)) := by rw [List.drop_zero, hall]; exact Go.IntWalk.wrap64_in _ (by omega)
      have HV2 := Lib.hid hV
      have H3 := Lib.hid h3
      have H4 := Lib.hid h4
      have he : Hid (rw_ x u &&& stN (l.drop K) = ltZ (m : Int) m x l u) := by show _ = _; rw [hyes.out, hK]; rfl
      have i3 : (u : Int) < (m : Int) := r2
      clear hV hlen h3 h4 hK ho hv vg0 hall
      go_wp2
      clear s0
      go_loop [7, 8] (fun s i => ∃ k : Nat, k ≤ K ∧ i = .int .i64 k ∧ s = .int .i64 (stN (l.drop k) : Nat)) (fun _ i => n - (intOf i).toNat)
      case atStart => exact ⟨0, Nat.zero_le _, rfl, congrArg (Value.int .i64) S0.out⟩
      case round =>
        obtain ⟨k, hk, rfl, rfl⟩ := hrel
        have hkn : k < n := by omega
        have hkl : k < l.length := by rw [← HN.out]; exact hkn
        have q1 := HL.out.at hkn
        have i1 : (k : Int) < (n : Int) := by omega
        by_cases hkK : k = K
        · have e1 : l.getD k 0 = (u : Int) := by rw [hkK]; exact H3.out
          rw [e1] at q1
          have hlt := stN_lt (HV2.out.drop k).2
          have E := i64_and_nat (rw_ x u) (stN (l.drop k)) (by omega) (by omega)
          rw [hkK, he.out, ← hkK] at E
          have hne : ((u : Int) != (u : Int)) = false := by simp
          clear hkK e1
          go_wp2
          go_ret
          exact ⟨rfl, HB.out.below⟩
        · have hne1 : l.getD k 0 ≠ (u : Int) := H4.out k (by omega)
          have hst := stN_drop HV2.out hkl
          have hmem := HV2.out.2 _ (getD_mem hkl)
          have hlt := stN_lt (HV2.out.drop k).2
          obtain ⟨a, ha⟩ : ∃ a : Int, a = l.getD k 0 := ⟨_, rfl⟩
          rw [← ha] at q1 hne1 hst hmem
          obtain ⟨a0, a1⟩ := hmem
          obtain ⟨d, rfl⟩ := Int.eq_ofNat_of_zero_le a0
          rw [Int.toNat_natCast] at hst
          have hne : ((d : Int) != (u : Int)) = true := by simpa using hne1
          have hne2 : (d = u) = False := by simp; omega
          have p2 := pow_shl d (by omega)
          have hpd := pow_cast d
          have h2d := two_pow_int d (by omega)
          have s1 : wrap64 ((stN (l.drop k) : Int) - 2 ^ d) = (stN (l.drop (k + 1)) : Int) := by
            rw [Go.IntWalk.wrap64_in _ (by omega)]; omega
          have hkK2 : k + 1 ≤ K := by omega
          clear ha hst hne1 hkK hlt hpd
          go_wp2
          go_round
          case rel => exact ⟨k + 1, hkK2, by go_num, by first | rfl | exact congrArg (Value.int .i64) s1⟩
          case measure => simp [intOf]; omega
    · have hno : Hid (ltZ (m : Int) m x l v = 0) := ltZ_out hr
      clear hv hV hlen ho vg0
      by_cases h0 : v < 0
      · clear hr
        go_wp2
        go_ret
        exact ⟨ret_int (by rw [hno.out]; rfl), HB.out.below⟩
      · have i1 : (m : Int) ≤ v := by omega
        have i2 : (0 : Int) ≤ v := by omega
        clear hr h0
        go_wp2
        go_ret
        exact ⟨ret_int (by rw [hno.out]; rfl), HB.out.below⟩
end Go.Proofs.Ytncjfgebolikoaa
