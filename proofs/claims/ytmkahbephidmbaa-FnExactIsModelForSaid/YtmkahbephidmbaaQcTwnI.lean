/-
  Contracts: twins within a set: the program's.
-/
import Derived.Test.YtmkahbephidmbaaQcTwnP
import Derived.Test.YtmkahbephidmbaaQcIdxI
import Derived.Test.YtmkahbephidmbaaQcOrdI
import Derived.Test.YtmkahbephidmbaaQcSimI
namespace Go.Proofs.Ytmkahbephidmbaa
open Go.RowKit

set_option maxRecDepth 100000 in
set_option maxHeartbeats 3200000 in
theorem twinF {A : Option Addr} {m c q : Nat} {r : Nat → Nat} {s v u : Nat} {w : World} (h : GBox w q A m c r) (e2 : w.cell? ⟨q + 1, 0, none⟩ = some (.int .i64 (s : Int))) (e3 : w.cell? ⟨q + 2, 0, none⟩ = some (.int .i64 (v : Int))) (hs : s < 2 ^ m) (hv : v < m) (hu : u < m) (hb : s.testBit u = true) :
    Calls Try.prog 56 #[.int .i64 (u : Int), .pointer (some ⟨q + 2, 0, none⟩), .pointer (some ⟨q, 0, none⟩), .pointer (some ⟨q + 1, 0, none⟩)] w fun e w' => e = .returned (.bool (tpB r s v u)) ∧ Below w.heap.size w w' := by
  have hn7 := h.gv.vg.n7
  have h128 := two_pow_le hn7
  have e1 := h.c1
  obtain ⟨b0, o0, rfl⟩ := h.gv.addr
  have q0 := h.gv.row hv
  have q1 := h.gv.row hu
  have hr0 := h.gv.vg.lt128 hv
  have hr1 := h.gv.vg.lt128 hu
  have htw := fun hne => tw_i (r := r) (s := s) (v := v) (w := u) hne hb
  obtain ⟨y, hy⟩ : ∃ y, y = r v := ⟨_, rfl⟩
  obtain ⟨x, hx⟩ : ∃ x, x = r u := ⟨_, rfl⟩
  rw [← hy] at q0 hr0 htw
  rw [← hx] at q1 hr1 htw
  have h2v := two_pow_le (n := v) (by omega)
  have h2u := two_pow_le (n := u) (by omega)
  obtain ⟨zv, hzv⟩ : ∃ z, z = 2 ^ v := ⟨_, rfl⟩
  obtain ⟨zu, hzu⟩ : ∃ z, z = 2 ^ u := ⟨_, rfl⟩
  have p1 : IntKind.i64.wrap ((2 : Int) ^ v) = (zv : Int) := by rw [pow_shl v (by omega), hzv]; simp
  have p2 : IntKind.i64.wrap ((2 : Int) ^ u) = (zu : Int) := by rw [pow_shl u (by omega), hzu]; simp
  have E1 := i64_or_nat zv zu (by omega) (by omega)
  obtain ⟨pr, hpr⟩ : ∃ pr, pr = prN v u := ⟨_, rfl⟩
  have hprlt : zv ||| zu < 2 ^ 8 := Nat.or_lt_two_pow (by omega) (by omega)
  rw [show zv ||| zu = pr by rw [hpr, hzv, hzu]; rfl] at E1 hprlt
  rw [← hpr] at htw
  have E2 : bits .xor .i64 (y : Int) (x : Int) = ((y ^^^ x : Nat) : Int) := by
    have := i64_xor (y : Int) (x : Int) (by omega) (by omega) (by omega) (by omega)
    simpa using this
  have hxl : y ^^^ x < 2 ^ 7 := Nat.xor_lt_two_pow (by omega) (by omega)
  obtain ⟨a, ha⟩ : ∃ a, a = y ^^^ x := ⟨_, rfl⟩
  rw [← ha] at E2 hxl htw
  have E3 := i64_and_nat a s (by omega) (by omega)
  obtain ⟨b, hb'⟩ : ∃ b, b = a &&& s := ⟨_, rfl⟩
  have hbl : b < 128 := by rw [hb']; exact Nat.lt_of_le_of_lt Nat.and_le_left (by omega)
  rw [← hb'] at E3 htw
  have E4 := i64_andNot_nat b pr (by omega) (by omega)
  obtain ⟨d, hd⟩ : ∃ d, d = b ^^^ (b &&& pr) := ⟨_, rfl⟩
  rw [← hd] at E4 htw
  have i1 : (v : Int) < (m : Int) := by omega
  have i2 : (u : Int) < (m : Int) := by omega
  have HF : Hid (From w w) := From.refl w
  clear h hb hy hx hzv hzu hpr ha hb' hd hr0 hr1 h2v h2u hprlt hxl hbl hv hu
  by_cases hne : u = v
  · subst hne
    have Hn : Hid (tpB r s u u = false) := tp_no fun h => h.1 rfl
    have d1 : ((u : Int) != (u : Int)) = false := by simp
    clear htw
    go_enter Try.func56, Try.ntmps56
    go_wp2
    go_quiet (fail)
    go_wp2
    go_quiet (fail)
    go_wp2
    go_ret
    exact ⟨ret_bool Hn.out.symm, ((HF.out.drewN _).drewN _).below⟩
  · have d1 : ((u : Int) != (v : Int)) = true := by simp; omega
    have htw := htw hne
    by_cases h0 : d = 0
    · have Hn : Hid (tpB r s v u = true) := tp_yes (htw.1 h0)
      have d2 : ((d : Int) == 0) = true := by simp; omega
      clear htw hne h0
      go_enter Try.func56, Try.ntmps56
      go_wp2
      go_quiet (fail)
      go_wp2
      go_quiet (fail)
      go_wp2
      go_ret
      exact ⟨ret_bool Hn.out.symm, ((HF.out.drewN _).drewN _).below⟩
    · have Hn : Hid (tpB r s v u = false) := tp_no fun h => h0 (htw.2 h)
      have d2 : ((d : Int) == 0) = false := by simp; omega
      clear htw hne h0
      go_enter Try.func56, Try.ntmps56
      go_wp2
      go_quiet (fail)
      go_wp2
      go_quiet (fail)
      go_wp2
      go_ret
      exact ⟨ret_bool Hn.out.symm, ((HF.out.drewN _).drewN _).below⟩

set_option maxRecDepth 100000 in
set_option maxHeartbeats 1600000 in
theorem twinIn_v {A : Option Addr} {m c : Nat} {r : Nat → Nat} {s v : Nat} {w : World} (h : GV w A m c r) (hs : s < 2 ^ m) (hv : v < m) :
    Calls Try.prog 27 #[.agg #[.int .i64 m, .slice A m c], .int .i64 (s : Int), .int .i64 (v : Int)] w fun e w' => e = .returned (.bool (tkB r s v m)) ∧ Below w.heap.size w w' := by
  have hn7 := h.vg.n7
  have hs128 : s < 128 := Nat.lt_of_lt_of_le hs (two_pow_le hn7)
  obtain ⟨W, hW⟩ : ∃ W : World, W = (((w.alloc (Obj.cells #[Value.int IntKind.i64 m, Value.slice A m c] 27)).alloc (Obj.cells #[Value.int .i64 (s : Int)] 3)).alloc (Obj.cells #[Value.int .i64 (v : Int)] 3)) := ⟨_, rfl⟩
  have HB : Hid (From w W) := by rw [hW]; exact ((From.alloc _ _).alloc_ _).alloc_ _
  have HG : Hid (GBox W w.heap.size A m c r) := by rw [hW]; exact (h.box.keep ((Below.refl _ _).alloc (Nat.le_refl _) _)).keep ((Below.refl _ _).alloc (Nat.le_refl _) _)
  have HS : Hid (CL W (w.heap.size + 1) 0 (.int .i64 (s : Int))) := by rw [hW]; constructor; simp [go_sem]
  have HV : Hid (CL W (w.heap.size + 2) 0 (.int .i64 (v : Int))) := by rw [hW]; constructor; simp [go_sem]
  have HW := Lib.hid hW
  clear hW h
  go_enter Try.func27, Try.ntmps27
  have e2 := HS.out.c
  have e3 := HV.out.c
  go_wp2_with fail
  rw [← HW.out]
  refine (ListOf_v s hs128 W).mono ?_
  rintro e w1 ⟨AL, cL, rfl, hOL, hb1⟩
  clear HW
  clear e2 e3
  replace HB := Lib.hid (HB.out.keep hb1)
  replace HG := Lib.hid (HG.out.keep hb1)
  replace HS := Lib.hid (HS.out.keep hb1)
  replace HV := Lib.hid (HV.out.keep hb1)
  clear hb1
  have e2 := HS.out.c
  have e3 := HV.out.c
  have HLI := Lib.hid hOL.ln.li
  have hL7 : (listN s).length ≤ 7 := listN_len s
  have HG0 := HG
  have HS0 := HS
  have HV0 := HV
  have KC := Lib.hid (ContainsFunc_g (p := fun z => tpB r s v z.toNat) (caps := #[.pointer (some ⟨w.heap.size + 2, 0, none⟩), .pointer (some ⟨w.heap.size, 0, none⟩), .pointer (some ⟨w.heap.size + 1, 0, none⟩)]) (ent_of Try.func56 (by kernel_rfl) rfl) w1 HLI.out (by omega) (fun z Z hz hZ => by
    rw [List.mem_map] at hz
    obtain ⟨u, hu, rfl⟩ := hz
    rw [Int.toNat_natCast]
    exact twinF (HG0.out.keep hZ) (HS0.out.keep hZ).c (HV0.out.keep hZ).c hs hv (bit_lt hs (mem_listN.1 hu).2) (mem_listN.1 hu).2))
  have HY : Hid ((((listN s).map fun w : Nat => (w : Int)).any (fun w => tpB r s v w.toNat)) = tkB r s v m) := tk_any hs hn7
  obtain ⟨b, hb⟩ : ∃ b, b = (((listN s).map fun w : Nat => (w : Int)).any (fun w => tpB r s v w.toNat)) := ⟨_, rfl⟩
  rw [← hb] at KC HY
  obtain ⟨N, hN⟩ : ∃ N, N = (listN s).length := ⟨_, rfl⟩
  rw [← hN] at KC ⊢
  clear hb hOL hN HLI hL7
  go_wp2_with fail
  refine (KC.out).mono ?_
  rintro e w2 ⟨rfl, hb2⟩
  clear e2 e3
  replace HB := Lib.hid (HB.out.keep hb2)
  replace HG := Lib.hid (HG.out.keep hb2)
  replace HS := Lib.hid (HS.out.keep hb2)
  replace HV := Lib.hid (HV.out.keep hb2)
  clear hb2
  have e2 := HS.out.c
  have e3 := HV.out.c
  go_wp2
  go_ret
  exact ⟨ret_bool HY.out, HB.out.below⟩
set_option maxHeartbeats 1600000 in
theorem modelF1 {A : Option Addr} {m c q : Nat} {r : Nat → Nat} {s v : Nat} {w : World} (h : GBox w q A m c r) (hs : s < 2 ^ m) (hv : v < m) :
    Calls Try.prog 26 #[.int .i64 (v : Int), .int .i64 (s : Int), .pointer (some ⟨q, 0, none⟩)] w fun e w' => e = .returned (.bool (tnB r m v s)) ∧ Below w.heap.size w w' := by
  have hn7 := h.gv.vg.n7
  have HG := Lib.hid h
  have e0 := h.c0
  have e1 := h.c1
  obtain ⟨z, hz⟩ : ∃ z, z = 2 ^ v := ⟨_, rfl⟩
  have p1 : IntKind.i64.wrap ((2 : Int) ^ v) = (z : Int) := by rw [pow_shl v (by omega), hz]; simp
  have HF : Hid (From w w) := From.refl w
  have KT := Lib.hid (twinIn_v h.gv hs hv)
  clear h
  by_cases hsz : s = z
  · have Hn : Hid (tnB r m v s = true) := by show _ = _; unfold tnB; rw [← hz, decide_eq_true hsz]; rfl
    have d1 : ((s : Int) == (z : Int)) = true := by simp; omega
    clear hsz hz
    go_enter Try.func26, Try.ntmps26
    go_wp2
    go_ret
    exact ⟨ret_bool Hn.out.symm, HF.out.below⟩
  · have Hn : Hid (tnB r m v s = tkB r s v m) := by show _ = _; unfold tnB; rw [← hz, decide_eq_false hsz]; rfl
    have d1 : ((s : Int) == (z : Int)) = false := by simp; omega
    clear hsz hz
    go_enter Try.func26, Try.ntmps26
    go_wp2_with fail
    refine (KT.out).mono ?_
    rintro e w1 ⟨rfl, hb1⟩
    replace HF := Lib.hid (HF.out.keep hb1)
    clear hb1
    go_wp2
    go_ret
    exact ⟨ret_bool Hn.out.symm, HF.out.below⟩
theorem modelF2 {A : Option Addr} {m c q : Nat} {r : Nat → Nat} {s v : Nat} {w : World} (h : GBox w q A m c r) (hs : s < 2 ^ m) (hv : v < m) :
    Calls Try.prog 31 #[.int .i64 (v : Int), .int .i64 (s : Int), .pointer (some ⟨q, 0, none⟩)] w fun e w' => e = .returned (.bool (simB r v s)) ∧ Below w.heap.size w w' := by
  have e0 := h.c0
  have e1 := h.c1
  have HF : Hid (From w w) := From.refl w
  have KT := Lib.hid (IsSimple_v h.gv hs hv)
  clear h
  go_enter Try.func31, Try.ntmps31
  go_wp2_with fail
  refine (KT.out).mono ?_
  rintro e w1 ⟨rfl, hb1⟩
  replace HF := Lib.hid (HF.out.keep hb1)
  clear hb1
  go_wp2
  go_ret
  exact ⟨rfl, HF.out.below⟩
end Go.Proofs.Ytmkahbephidmbaa
