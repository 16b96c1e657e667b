/-
  Contracts: is a set a clique? The program's test; the closure that looks for a simplicial vertex; the search for the first.
-/
import Derived.Test.YtnnlmdenffnjbaaSets
import Derived.Test.YtnnlmdenffnjbaaGraph
import Derived.Deep.QuietTactic
import Derived.BigQuiet
import Derived.Deep.RegionHeld3
namespace Go.Proofs.Ytnnlmdenffnjbaa
open Go.RowKit

/-- A valid graph's rows as they are read. -/
def rw_ (x : Nat → Int) : Nat → Nat := fun v => (x v).toNat
theorem okB_vg {m : Nat} {x : Nat → Int} (h : okB m m x = true) : VG m (rw_ x) ∧ ∀ v, v < m → x v = (rw_ x v : Int) := by
  have hok : OkG m m x := by
    refine Classical.byContradiction fun h2 => ?_
    rw [okB_no h2] at h; cases h
  obtain ⟨r, _, vg, hx⟩ := hok
  exact ⟨vg.congr fun v hv => by show r v = (x v).toNat; rw [hx v hv]; simp, fun v hv => by show x v = ((x v).toNat : Int); rw [hx v hv]; simp⟩

set_option maxHeartbeats 1000000 in
theorem isClique_i (m : Nat) (A : Option Addr) (c : Nat) (x : Nat → Int) (s : Nat) (w : World) (B : Nat) (h : Rd w B A m c x) (hB : B ≤ w.heap.size) (hok : okB m m x = true) (hs : s < 2 ^ m) :
    Calls Try.prog 189 #[.agg #[.int .i64 m, .slice A m c], .int .i64 s] w fun e w' => e = .returned (.bool (cliq (rw_ x) s)) ∧ Below w.heap.size w w' := by
  obtain ⟨vg, hx⟩ := okB_vg hok
  have hn1 := vg.n1
  have hn7 := vg.n7
  have h128 := two_pow_le hn7
  obtain ⟨W, hW⟩ : ∃ W : World, W = (w.alloc (Obj.cells #[Value.int IntKind.i64 m, Value.slice A m c] 28)) := ⟨_, rfl⟩
  have HB : Hid (Below w.heap.size w W) := by rw [hW]; exact ((Below.refl _ _).alloc (Nat.le_refl _) _)
  have a0 : w.heap.size < W.heap.size := by rw [hW]; simp
  have e1 : W.cell? ⟨w.heap.size, 1, none⟩ = some (.slice A m c) := by rw [hW]; simp [go_sem]
  obtain ⟨b, o, rfl, hb, hc⟩ := (h.keep (HB.out.mono hB) (Nat.le_refl _)).pos (by omega)
  have HC := Lib.hid hc
  have HW := Lib.hid hW
  have HX := Lib.hid hx
  have HV := Lib.hid vg
  clear hW h hc hx vg hok
  go_enter Try.func189, Try.ntmps189
  go_wp2_with fail
  rw [← HW.out]
  clear HW
  refine (ListOf_i s (by omega) W).mono ?_
  rintro e w1 ⟨A', c', rfl, hO, hb1⟩
  have z1 := hb1.size
  have f1 := up hb1 e1 a0
  have HO := Lib.hid hO
  have HB1 : Hid (Below w.heap.size w w1) := HB.out.trans (hb1.mono (by omega))
  have HC1 : Hid (∀ v, v < m → w1.cell? ⟨b, o + v, none⟩ = some (.int .i64 (x v))) := fun v hv => (hb1.cell (p := ⟨b, o + v, none⟩) (by show b < _; omega)).trans (HC.out v hv)
  have hl7 := listN_len s
  have a1 : w.heap.size < w1.heap.size := by omega
  clear hO hb1 e1 HC HB
  go_wp2
  go_loopw [10] (fun i wr => ∃ k : Nat, k ≤ (listN s).length ∧ i = .int .i64 k ∧ Hid (∀ j (hj : j < (listN s).length), j < k → s ^^^ (s &&& rw_ x (listN s)[j]) = 2 ^ (listN s)[j]) ∧ Hid (Below w1.heap.size w1 wr)) (fun i _ => (listN s).length - (intOf i).toNat)
  case atStart => exact ⟨0, Nat.zero_le _, rfl, (fun j hj hk => absurd hk (by omega)), Below.refl _ _⟩
  case round =>
    obtain ⟨k, hk, rfl, hall, hbr⟩ := hrel
    have zr := hbr.out.size
    by_cases hlt : k < (listN s).length
    · obtain ⟨hv7, hvb⟩ := listN_at hlt
      have hvm := bit_lt hs hvb
      obtain ⟨v, hv⟩ : ∃ v, v = (listN s)[k] := ⟨_, rfl⟩
      rw [← hv] at hv7 hvb hvm
      obtain ⟨g, hA, hg1, hg2, _, hcell, _⟩ := HO.out.at_ (by omega)
      have q0 : wr.cell? ⟨g, k, none⟩ = some (.int .i64 v) := (hbr.out.cell (p := ⟨g, k, none⟩) (by show g < _; omega)).trans ((hcell k (by omega)).trans (by rw [ni_at hlt, ← hv]))
      have q1 := up hbr.out f1 a1
      have q2 := (hbr.out.cell (p := ⟨b, o + v, none⟩) (by show b < _; omega)).trans (HC1.out v hvm)
      have hxv := HX.out v hvm
      have hr128 := HV.out.lt128 hvm
      have E := i64_andNot (s : Int) (x v) (by omega) (by omega) (by omega) (by omega)
      rw [Int.toNat_natCast] at E
      have p1 := pow_shl v (by omega)
      have i1 : (k : Int) < ((listN s).length : Int) := by omega
      have i2 : (v : Int) < (m : Int) := by omega
      have Hv := Lib.hid hv
      subst hA
      by_cases hq : s ^^^ (s &&& (x v).toNat) = 2 ^ v
      · have hne : (bits BinOp.andNot .i64 (s : Int) (x v) != 2 ^ v) = false := by rw [E, hq]; simp
        have Hq : Hid (s ^^^ (s &&& rw_ x (listN s)[k]) = 2 ^ (listN s)[k]) := by show _ = _; rw [← Hv.out]; exact hq
        clear E hq hv hcell hxv hvb
        go_wp2
        go_quiet (fail)
        go_wp2
        go_roundw
        case rel =>
          refine ⟨k + 1, by omega, by go_num, fun j hj hk => ?_, below_drewN hbr.out _⟩
          by_cases hjk : j < k
          · exact hall.out j hj hjk
          · have : j = k := by omega
            subst this
            exact Hq.out
        case measure => simp [intOf]; omega
      · have hne : (bits BinOp.andNot .i64 (s : Int) (x v) != 2 ^ v) = true := by
          rw [E, bne_iff_ne]
          intro e
          apply hq
          have e2 : ((2 ^ v : Nat) : Int) = 2 ^ v := by simp
          rw [← e2] at e
          omega
        have hno : Hid (cliq (rw_ x) s = false) := cliq_no hv7 hvb hq
        clear E hq hv hcell hxv hvb
        go_wp2
        go_quiet (fail)
        go_wp2
        go_ret
        exact ⟨ret_bool hno.out.symm, HB1.out.trans ((below_drewN hbr.out _).mono (by omega))⟩
    · have hyes : Hid (cliq (rw_ x) s = true) := by
        refine cliq_yes fun v hv hb => ?_
        obtain ⟨j, hj, rfl⟩ := List.mem_iff_getElem.1 (mem_listN.2 ⟨hv, hb⟩)
        exact hall.out j hj (by omega)
      have i1 : ((listN s).length : Int) ≤ (k : Int) := by omega
      go_wp2
      go_ret
      exact ⟨ret_bool hyes.out.symm, HB1.out.trans (hbr.out.mono (by omega))⟩

set_option maxHeartbeats 1000000 in
theorem simp_i (m : Nat) (A : Option Addr) (c : Nat) (x : Nat → Int) (left v bg bl : Nat) (w : World) (B : Nat) (h : Rd w B A m c x) (hB : B ≤ w.heap.size) (hok : okB m m x = true) (hs : left < 2 ^ m) (hv : v < m)
    (g0 : w.cell? ⟨bg, 0, none⟩ = some (.int .i64 m)) (g1 : w.cell? ⟨bg, 1, none⟩ = some (.slice A m c)) (l0 : w.cell? ⟨bl, 0, none⟩ = some (.int .i64 left)) :
    Calls Try.prog 226 #[.int .i64 v, .pointer (some ⟨bg, 0, none⟩), .pointer (some ⟨bl, 0, none⟩)] w fun e w' => e = .returned (.bool (cliq (rw_ x) (rw_ x v &&& left))) ∧ Below w.heap.size w w' := by
  obtain ⟨vg, hx⟩ := okB_vg hok
  have hn7 := vg.n7
  have h128 := two_pow_le hn7
  have hr128 := vg.lt128 hv
  obtain ⟨b, o, rfl, hb, hc⟩ := h.pos (by omega)
  have q0 := hc v hv
  rw [hx v hv] at q0
  have E := i64_and_nat (rw_ x v) left (by omega) (by omega)
  have hlt : rw_ x v &&& left < 2 ^ m := Nat.lt_of_le_of_lt Nat.and_le_right hs
  have i1 : (v : Int) < (m : Int) := by omega
  have Hok := Lib.hid hok
  have HR : Hid (Rd w.drew B (some ⟨b, o, none⟩) m c x) := h
  have HBd : Hid (B ≤ w.drew.heap.size) := hB
  clear hx vg hc hok h
  go_enter Try.func226, Try.ntmps226
  go_wp2_with fail
  go_region_held3 (fun z => z.cell? ⟨bg, 0, none⟩ = some (.int .i64 m) ∧ z.cell? ⟨bg, 1, none⟩ = some (.slice (some ⟨b, o, none⟩) m c) ∧ z.cell? ⟨bl, 0, none⟩ = some (.int .i64 left) ∧ z.cell? ⟨b, o + v, none⟩ = some (.int .i64 (rw_ x v : Int)))
    (first | (refine ⟨?_, ?_, ?_, ?_⟩ <;> assumption) | exact ⟨up hb3 g0 (World.block_lt_of_cell? _ _ g0), up hb3 g1 (World.block_lt_of_cell? _ _ g1), up hb3 l0 (World.block_lt_of_cell? _ _ l0), up hb3 q0 (World.block_lt_of_cell? _ _ q0)⟩ | fail)
    (first | (go_at_call 189; ((with_reducible refine (isClique_i m (some ⟨b, o, none⟩) c x (rw_ x v &&& left) _ _ HR.out HBd.out Hok.out hlt).mono ?_); rintro e w3 ⟨rfl, hb3⟩)))
  have HB : Hid (Below w.heap.size w w3) := ⟨hb3.os, hb3.tape, hb3.output, hb3.size, hb3.block⟩
  clear hb3
  go_wp2
  go_ret
  exact ⟨rfl, HB.out⟩
end Go.Proofs.Ytnnlmdenffnjbaa
