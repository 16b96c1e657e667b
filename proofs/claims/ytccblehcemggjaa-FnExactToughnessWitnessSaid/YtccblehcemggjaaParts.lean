/-
  Contracts: neighbours, parts, numbers of members: the program's.
-/
import Derived.Test.YtccblehcemggjaaPartP
import Derived.Test.YtccblehcemggjaaClique
import Derived.Test.YtccblehcemggjaaElim
namespace Go.Proofs.Ytccblehcemggjaa
open Go.RowKit

theorem CountSet_i (s : Nat) (hs : s < 128) (w : World) :
    Calls Try.prog 83 #[.int .i64 s] w fun e w' => e = .returned (.int .i64 ((listN s).length : Int)) ∧ Below w.heap.size w w' := by
  go_enter Try.func83, Try.ntmps83
  go_wp2_with fail
  refine (ListOf_i s hs w).mono ?_
  rintro e w1 ⟨A', c', rfl, hO, hb1⟩
  have HB := Lib.hid hb1
  clear hO hb1
  go_wp2
  go_ret
  exact ⟨rfl, HB.out⟩

/-- The members' neighbours, as far as the list has been read. -/
def nbL (r : Nat → Nat) (s k : Nat) : Nat := ((listN s).take k).foldl (fun a v => a ||| r v) 0
theorem nbL_succ {r : Nat → Nat} {s k : Nat} (h : k < (listN s).length) : nbL r s (k + 1) = nbL r s k ||| r (listN s)[k] := by
  unfold nbL
  rw [List.take_succ_eq_append_getElem h, List.foldl_append]; rfl
theorem nbL_end {r : Nat → Nat} {s k : Nat} (h : (listN s).length ≤ k) : nbL r s k = nb r s := by
  unfold nbL
  rw [List.take_of_length_le h]
  exact nb_list 7
theorem nbL_lt {r : Nat → Nat} {s n k : Nat} (hr : ∀ v, v < n → r v < 2 ^ n) (hs : s < 2 ^ n) : nbL r s k < 2 ^ n :=
  fold_lt _ _ (Nat.two_pow_pos n) (fun v hv => hr v (bit_lt hs (mem_listN.1 (List.mem_of_mem_take hv)).2))

set_option maxHeartbeats 1000000 in
theorem neighbors_i (m : Nat) (A : Option Addr) (c : Nat) (x : Nat → Int) (s : Nat) (w : World) (B : Nat) (h : Rd w B A m c x) (hB : B ≤ w.heap.size) (hok : okB m m x = true) (hs : s < 2 ^ m) :
    Calls Try.prog 122 #[.agg #[.int .i64 m, .slice A m c], .int .i64 s] w fun e w' => e = .returned (.int .i64 (nb (rw_ x) s : Nat)) ∧ Below w.heap.size w w' := by
  obtain ⟨vg, hx⟩ := okB_vg hok
  have hn1 := vg.n1
  have hn7 := vg.n7
  have h128 := two_pow_le hn7
  obtain ⟨W, hW⟩ : ∃ W : World, W = (w.alloc (Obj.cells #[Value.int IntKind.i64 m, Value.slice A m c] 42)) := ⟨_, rfl⟩
  have HB : Hid (Below w.heap.size w W) := by rw [hW]; exact ((Below.refl _ _).alloc (Nat.le_refl _) _)
  have a0 : w.heap.size < W.heap.size := by rw [hW]; simp
  have e1 : W.cell? ⟨w.heap.size, 1, none⟩ = some (.slice A m c) := by rw [hW]; simp [go_sem]
  obtain ⟨b, o, rfl, hb, hc⟩ := (h.keep (HB.out.mono hB) (Nat.le_refl _)).pos (by omega)
  have HC := Lib.hid hc
  have HW := Lib.hid hW
  have HX := Lib.hid hx
  have HV := Lib.hid vg
  clear hW h hc hx vg hok
  go_enter Try.func122, Try.ntmps122
  go_wp2_with fail
  rw [← HW.out]
  clear HW
  refine (ListOf_i s (by omega) W).mono ?_
  rintro e w1 ⟨A', c', rfl, hO, hb1⟩
  have z1 := hb1.size
  have f1 := up hb1 e1 a0
  have HO := Lib.hid hO
  have HB1 : Hid (Below w.heap.size w w1) := HB.out.trans (hb1.mono (by omega))
  have HC1 : Hid (∀ v, v < m → w1.cell? ⟨b, o + v, none⟩ = some (.int .i64 (x v))) := fun v hv => (hb1.cell (p := ⟨b, o + v, none⟩) (by show b < _; omega)).trans (HC.out v hv)
  have hl7 := listN_len s
  clear hO hb1 e1 HC HB
  go_wp2
  go_loop [5, 11] (fun a i => ∃ k : Nat, k ≤ (listN s).length ∧ i = .int .i64 k ∧ a = .int .i64 (nbL (rw_ x) s k : Nat)) (fun _ i => (listN s).length - (intOf i).toNat)
  case atStart => exact ⟨0, Nat.zero_le _, rfl, rfl⟩
  case round =>
    obtain ⟨k, hk, rfl, rfl⟩ := hrel
    by_cases hlt : k < (listN s).length
    · obtain ⟨hv7, hvb⟩ := listN_at hlt
      have hvm := bit_lt hs hvb
      have hstep := nbL_succ (r := rw_ x) hlt
      have hlt1 := nbL_lt (r := rw_ x) (k := k) HV.out.lt hs
      obtain ⟨v, hv⟩ : ∃ v, v = (listN s)[k] := ⟨_, rfl⟩
      rw [← hv] at hv7 hvb hvm hstep
      obtain ⟨g, hA, hg1, hg2, _, hcell, _⟩ := HO.out.at_ (by omega)
      have q0 : w1.cell? ⟨g, k, none⟩ = some (.int .i64 v) := (hcell k (by omega)).trans (by rw [ni_at hlt, ← hv])
      have q2 := HC1.out v hvm
      rw [HX.out v hvm] at q2
      have hr128 := HV.out.lt128 hvm
      have E := i64_or_nat (nbL (rw_ x) s k) (rw_ x v) (by omega) (by omega)
      rw [← hstep] at E
      have i1 : (k : Int) < ((listN s).length : Int) := by omega
      have i2 : (v : Int) < (m : Int) := by omega
      subst hA
      clear hv hcell hvb hstep
      go_wp2
      go_round
      case rel => exact ⟨k + 1, by omega, by go_num, rfl⟩
      case measure => simp [intOf]; omega
    · have hend : Hid (nbL (rw_ x) s k = nb (rw_ x) s) := nbL_end (by omega)
      have i1 : ((listN s).length : Int) ≤ (k : Int) := by omega
      go_wp2
      go_ret
      exact ⟨ret_int (by rw [hend.out]), HB1.out⟩

set_option maxHeartbeats 1000000 in
theorem partOf_i (m : Nat) (A : Option Addr) (c : Nat) (x : Nat → Int) (set s : Nat) (w : World) (B : Nat) (h : Rd w B A m c x) (hB : B ≤ w.heap.size) (hok : okB m m x = true) (hset : set < 2 ^ m) (hsub : Sub s set) (h0 : s ≠ 0) :
    Calls Try.prog 108 #[.agg #[.int .i64 m, .slice A m c], .int .i64 set, .int .i64 s] w fun e w' => e = .returned (.int .i64 (part (rw_ x) set s : Nat)) ∧ Below w.heap.size w w' := by
  obtain ⟨vg, hx⟩ := okB_vg hok
  have hn7 := vg.n7
  have h128 := two_pow_le hn7
  obtain ⟨W, hW⟩ : ∃ W : World, W = (w.alloc (Obj.cells #[Value.int IntKind.i64 m, Value.slice A m c] 42)) := ⟨_, rfl⟩
  have HB : Hid (Below w.heap.size w W) := by rw [hW]; exact ((Below.refl _ _).alloc (Nat.le_refl _) _)
  have a0 : w.heap.size < W.heap.size := by rw [hW]; simp
  have e0 : W.cell? ⟨w.heap.size, 0, none⟩ = some (.int .i64 m) := by rw [hW]; simp [go_sem]
  have e1 : W.cell? ⟨w.heap.size, 1, none⟩ = some (.slice A m c) := by rw [hW]; simp [go_sem]
  have HK := Lib.hid (h.keep (HB.out.mono hB) (Nat.le_refl _))
  have HW := Lib.hid hW
  have HV := Lib.hid vg
  have Hok := Lib.hid hok
  have Hsub := Lib.hid hsub
  have H0 := Lib.hid h0
  clear hW h hx vg hok hsub h0
  go_enter Try.func108, Try.ntmps108
  go_wp2_with fail
  rw [← HW.out]
  clear HW
  go_loopw [2] (fun f wr => ∃ k : Nat, f = .int .i64 (gro (rw_ x) set s k : Nat) ∧ Hid (∀ j, j < k → gro (rw_ x) set s (j + 1) ≠ gro (rw_ x) set s j) ∧ Hid (Below W.heap.size W wr)) (fun f _ => 128 - (intOf f).toNat)
  case atStart => exact ⟨0, rfl, (fun j hj => absurd hj (by omega)), Below.refl _ _⟩
  case round =>
    obtain ⟨k, rfl, hall, hbr⟩ := hrel
    have zr := hbr.out.size
    have j0 := up hbr.out e0 a0
    have j1 := up hbr.out e1 a0
    have hgs := gro_sub (r := rw_ x) Hsub.out k
    have hlt := sub_lt hgs hset
    have hnb := nb_lt (r := rw_ x) (s := gro (rw_ x) set s k) HV.out.lt hlt 7
    have hgg := gro_grow (r := rw_ x) Hsub.out k
    have hle := sub_num hgg
    have hlt2 := sub_lt (gro_sub (r := rw_ x) Hsub.out (k + 1)) hset
    have hstep : gro (rw_ x) set s (k + 1) = (gro (rw_ x) set s k ||| nb (rw_ x) (gro (rw_ x) set s k)) &&& set := rfl
    have HK2 : Hid (Rd wr B A m c x) := HK.out.keep (hbr.out.mono (by omega)) (Nat.le_refl _)
    have hE : Hid (gro (rw_ x) set s (k + 1) = gro (rw_ x) set s k → gro (rw_ x) set s k = part (rw_ x) set s) := fun e => fix_part (r := rw_ x) hn7 hset Hsub.out H0.out hall.out e
    obtain ⟨a, ha⟩ : ∃ a, a = gro (rw_ x) set s k := ⟨_, rfl⟩
    obtain ⟨b, hb⟩ : ∃ b, b = gro (rw_ x) set s (k + 1) := ⟨_, rfl⟩
    rw [← ha] at hstep hlt hnb hle ⊢
    rw [← ha, ← hb] at hE
    rw [← hb] at hstep hle hlt2
    obtain ⟨n, hnn⟩ : ∃ n, n = nb (rw_ x) a := ⟨_, rfl⟩
    have hn2 : n < 2 ^ m := by rw [hnn]; exact hnb
    have E1 := i64_or_nat a n (by omega) (by omega)
    have horlt : a ||| n < 2 ^ m := Nat.or_lt_two_pow hlt hn2
    have E2 := i64_and_nat (a ||| n) set (by omega) (by omega)
    rw [hnn, ← hstep] at E2
    rw [← hnn] at E2
    have Ha := Lib.hid ha
    have Hb := Lib.hid hb
    have Hnn := Lib.hid hnn
    clear ha hb hgs hgg hstep hnb hnn
    go_wp2_with fail
    refine (neighbors_i m A c x a wr B HK2.out (by omega) Hok.out hlt).mono ?_
    rintro e w2 ⟨rfl, hb2⟩
    rw [← Hnn.out]
    have HB2 : Hid (Below W.heap.size W w2) := hbr.out.trans (hb2.mono zr)
    clear hb2 hbr HK2 j0 j1
    by_cases hab : b = a
    · have hp : Hid (a = part (rw_ x) set s) := hE.out hab
      subst hab
      go_wp2
      go_ret
      exact ⟨ret_int (by rw [← hp.out]), HB.out.trans (HB2.out.mono (by omega))⟩
    · have hne : ((b : Int) == (a : Int)) = false := by simp; omega
      have hne2 : (b = a) = False := by simp [hab]
      have hlt3 : a < b := by omega
      have Hab := Lib.hid hab
      clear hab
      go_wp2
      go_roundw
      case rel =>
        refine ⟨k + 1, by rw [← Hb.out], fun j hj => ?_, HB2⟩
        by_cases hjk : j < k
        · exact hall.out j hjk
        · obtain rfl : j = k := by omega
          rw [← Hb.out, ← Ha.out]; exact Hab.out
      case measure => simp [intOf]; omega
end Go.Proofs.Ytccblehcemggjaa
