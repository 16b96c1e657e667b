/-
  Contracts: the graph of the vertices of a set: the program's.
-/
import Derived.Test.YtdpkbfiggbcclaaGreatQiInP
import Derived.Test.YtdpkbfiggbcclaaGreatQiFillP
namespace Go.Proofs.YtdpkbfiggbcclaaGreat
open Go.RowKit

set_option maxRecDepth 100000 in
set_option maxHeartbeats 6400000 in
theorem induced_v {A : Option Addr} {m c : Nat} {r : Nat → Nat} {s : Nat} {w : World} (h : GV w A m c r) (hs : s < 2 ^ m) (h0 : s ≠ 0) :
    Calls Tryz.prog 308 #[.agg #[.int .i64 m, .slice A m c], .int .i64 s] w fun e w' => ∃ A' c', e = .returned (.agg #[.int .i64 (cn s : Nat), .slice A' (cn s) c']) ∧ Own w' w.heap.size w'.heap.size 3 1 A' (cn s) c' (fun j => .int .i64 (inR r s j : Nat)) ∧ Below w.heap.size w w' := by
  have hn7 := h.vg.n7
  have h128 := two_pow_le hn7
  have HV := Lib.hid h.vg
  have HS := Lib.hid hs
  have hc7 := cn_le s
  have hc1 := cn_one (by omega) h0
  have Hat : Hid (∀ i, (hi : i < (listN s).length) → (listN s)[i] = lsN s i) := fun i hi => lsN_at hi
  have Hls : Hid (∀ i, i < (listN s).length → lsN s i < m) := fun i hi => (lsN_bit hs hi).1
  obtain ⟨b0, o0, rfl⟩ := h.addr
  obtain ⟨W, hW⟩ : ∃ W : World, W = ((w.alloc (Obj.cells #[Value.int IntKind.i64 m, Value.slice (some ⟨b0, o0, none⟩) m c] 28)).alloc (Obj.cells #[Value.int IntKind.i64 0, Value.slice none 0 0] 28)) := ⟨_, rfl⟩
  have HB : Hid (From w W) := by rw [hW]; exact (From.alloc _ _).alloc_ _
  have HG : Hid (GBox W w.heap.size (some ⟨b0, o0, none⟩) m c r) := by rw [hW]; exact h.box.keep ((Below.refl _ _).alloc (Nat.le_refl _) _)
  have HQ : Hid (GC W (w.heap.size + 1) 0 none 0 0) := by
    rw [hW]
    have := GC.new (w.alloc (Obj.cells #[Value.int IntKind.i64 m, Value.slice (some ⟨b0, o0, none⟩) m c] 28)) 0 none 0 0
    show GC _ _ _ _ _ _
    simpa using this
  have HW := Lib.hid hW
  have KL := Lib.hid (ListOf_v s (by omega) W)
  have Hfin : Hid (∀ j, j < (listN s).length → iK r s (listN s).length 0 j = inR r s j) := fun j hj => iK_end hj
  have Hnx : Hid (∀ i j, iK r s i (listN s).length j = iK r s (i + 1) 0 j) := fun i j => iK_next r s i j
  rw [show cn s = (listN s).length from rfl] at hc7 hc1 ⊢
  obtain ⟨n, hn⟩ : ∃ n, n = (listN s).length := ⟨_, rfl⟩
  have Hn := Lib.hid hn
  clear hW h h0 hs
  go_enter Tryz.func308, Tryz.ntmps308
  have e0 := HG.out.c0
  have e1 := HG.out.c1
  go_wp2_with fail
  rw [← HW.out]
  clear HW
  refine KL.out.mono ?_
  rintro e w1 ⟨Al, cl, rfl, ho1, hb1⟩
  have HL := Lib.hid ho1
  clear e0 e1
  replace HB := Lib.hid (HB.out.keep hb1)
  replace HQ := Lib.hid (HQ.out.keep hb1)
  replace HG := Lib.hid (HG.out.keep hb1)
  clear hb1 ho1 KL
  have e0 := HG.out.c0
  have e1 := HG.out.c1
  rw [← hn] at hc7 hc1 ⊢
  clear hn
  obtain ⟨W2, hmk, hO2, hb2⟩ := made_own w1 n (by omega)
  have hz2 : w1.heap.size + 1 ≤ W2.heap.size := by
    obtain ⟨_, e, _, _, h, _⟩ := hO2.at_ (by omega)
    injection e with e
    injection e with e
    omega
  obtain ⟨W3, hW3⟩ : ∃ W3 : World, W3 = (W2.alloc (Obj.cells #[Value.int IntKind.i64 n, Value.slice (some ⟨w1.heap.size, 0, none⟩) n n] 28)) := ⟨_, rfl⟩
  have hb3 : Below W2.heap.size W2 W3 := by rw [hW3]; exact (Below.refl _ _).alloc (Nat.le_refl _) _
  have HO3 : Hid (Own W3 w1.heap.size (w1.heap.size + 1) 3 1 (some ⟨w1.heap.size, 0, none⟩) n n (fun j => .int .i64 (iK r s 0 0 j : Nat))) := (hO2.keepB hb3 hz2).congr fun j _ => by rw [iK_zero]; rfl
  have HU3 : Hid (GC W3 W2.heap.size n (some ⟨w1.heap.size, 0, none⟩) n n) := by rw [hW3]; exact GC.new _ _ _ _ _
  have HR3 : Hid (Below w1.heap.size w1 W3) := hb2.trans (hb3.mono (by omega))
  have HW3 := Lib.hid hW3
  clear hW3 hb3 hb2 hO2
  go_wp2_with fail
  rw [← HW3.out]
  clear HW3 hmk e0 e1
  go_loopw [21] (fun iv wr => ∃ i : Nat, i ≤ n ∧ iv = .int .i64 i ∧ Hid (Own wr w1.heap.size (w1.heap.size + 1) 3 1 (some ⟨w1.heap.size, 0, none⟩) n n (fun j => .int .i64 (iK r s i 0 j : Nat))) ∧ Hid (GC wr W2.heap.size n (some ⟨w1.heap.size, 0, none⟩) n n) ∧ Hid (Below w1.heap.size w1 wr)) (fun iv _ => n - (intOf iv).toNat)
  case atStart => exact ⟨0, Nat.zero_le _, rfl, HO3, HU3, HR3⟩
  case round =>
    clear HO3 HU3 HR3
    obtain ⟨i, hi, rfl, HO, HU, HR⟩ := hrel
    by_cases hin : i < n
    · have i1 : (i : Int) < (n : Int) := by omega
      have HLr := Lib.hid (HL.out.keep HR.out)
      obtain ⟨b5, o5, rfl⟩ := HL.out.ln.addr (by rw [← Hn.out]; omega)
      have p0 := HLr.out.ln.at (j := i) (by rw [← Hn.out]; omega)
      rw [Hat.out i (by rw [← Hn.out]; omega)] at p0
      obtain ⟨y, hy⟩ : ∃ y, y = lsN s i := ⟨_, rfl⟩
      have hym : y < m := by rw [hy]; exact Hls.out i (by rw [← Hn.out]; omega)
      rw [← hy] at p0
      have Hy := Lib.hid hy
      clear hy HLr
      go_wp2
      go_loopw [28] (fun kv wr => ∃ k : Nat, k ≤ n ∧ kv = .int .i64 k ∧ Hid (Own wr w1.heap.size (w1.heap.size + 1) 3 1 (some ⟨w1.heap.size, 0, none⟩) n n (fun j => .int .i64 (iK r s i k j : Nat))) ∧ Hid (GC wr W2.heap.size n (some ⟨w1.heap.size, 0, none⟩) n n) ∧ Hid (Below w1.heap.size w1 wr)) (fun kv _ => n - (intOf kv).toNat)
      case atStart => exact ⟨0, Nat.zero_le _, rfl, HO, HU, HR⟩
      case round =>
        clear HO HU HR p0
        obtain ⟨k, hk, rfl, HO, HU, HR⟩ := hrel
        by_cases hkn : k < n
        · have i2 : (k : Int) < (n : Int) := by omega
          have HLr := Lib.hid (HL.out.keep HR.out)
          have p1 := HLr.out.ln.at (j := k) (by rw [← Hn.out]; omega)
          rw [Hat.out k (by rw [← Hn.out]; omega)] at p1
          obtain ⟨u, hu⟩ : ∃ u, u = lsN s k := ⟨_, rfl⟩
          have hum : u < m := by rw [hu]; exact Hls.out k (by rw [← Hn.out]; omega)
          rw [← hu] at p1
          have HGr := Lib.hid (HG.out.keep HR.out)
          have e0 := HGr.out.c0
          have e1 := HGr.out.c1
          have q0 := HGr.out.gv.row hym
          have hr := HV.out.lt128 hym
          have hbit : (r (lsN s i)).testBit (lsN s k) = (r y).testBit u := by rw [Hy.out, hu]
          obtain ⟨x, hx⟩ : ∃ x, x = r y := ⟨_, rfl⟩
          rw [← hx] at q0 hr hbit
          have i3 : (y : Int) < (m : Int) := by omega
          clear hu hx HLr HGr
          cases hb : x.testBit u
          · have K1 := Lib.hid (has_q hr (by omega) hb wr)
            have HO' : Hid (Own wr w1.heap.size (w1.heap.size + 1) 3 1 (some ⟨w1.heap.size, 0, none⟩) n n (fun j => .int .i64 (iK r s i (k + 1) j : Nat))) := HO.out.congr fun j _ => by rw [iK_no (hbit.trans hb)]
            clear hb hbit
            go_wp2_with fail
            refine K1.out.mono ?_
            rintro e wr ⟨rfl, rfl⟩
            go_wp2
            go_roundw
            case rel => exact ⟨k + 1, by omega, by go_num, HO', HU, HR⟩
            case measure => (simp [intOf] <;> omega)
          · have K1 := Lib.hid (has_q hr (by omega) hb wr)
            have Hst : Hid (∀ j, iK r s i (k + 1) j = if j = i then iK r s i k i ||| 2 ^ k else iK r s i k j) := iK_yes (hbit.trans hb)
            clear hb hbit
            go_wp2_with fail
            refine K1.out.mono ?_
            rintro e wr ⟨rfl, rfl⟩
            obtain ⟨_, ea, _, _, _, h1, h2⟩ := HO.out.at_ (by omega)
            simp only [Option.some.injEq, Addr.mk.injEq, and_true] at ea
            subst ea
            have q1 := h1 i (by omega)
            have f1 := h2 i
            have hcl : iK r s i k i < 2 ^ k := by rw [iK_at]; exact bmK_lt k
            have h2k := two_pow_le (n := k) (by omega)
            obtain ⟨z, hz⟩ : ∃ z, z = 2 ^ k := ⟨_, rfl⟩
            have p2 : IntKind.i64.wrap ((2 : Int) ^ k) = (z : Int) := by rw [pow_shl k (by omega), hz]; simp
            obtain ⟨cc, hcc⟩ : ∃ cc, cc = iK r s i k i := ⟨_, rfl⟩
            obtain ⟨t, ht⟩ : ∃ t, t = cc ||| z := ⟨_, rfl⟩
            have E2 : bits .or .i64 (cc : Int) (z : Int) = (t : Int) := by rw [ht]; exact i64_or_nat _ _ (by omega) (by omega)
            have HO' : Hid (Own (wr.setCell ⟨w1.heap.size, i, none⟩ (.int .i64 (t : Nat))).drew w1.heap.size (w1.heap.size + 1) 3 1 (some ⟨w1.heap.size, 0, none⟩) n n (fun j => .int .i64 (iK r s i (k + 1) j : Nat))) := ((HO.out.set_ i _).drew).congr fun j _ => by
              rw [Hst.out]
              by_cases e : j = i
              · rw [if_pos e, if_pos e, ht, hcc, hz]
              · rw [if_neg e, if_neg e]
            rw [← hcc] at q1
            have d0 := HU.out.c0
            have d1 := HU.out.c1
            have F : Hid (Fr w1.heap.size (w1.heap.size + 1) wr (wr.setCell ⟨w1.heap.size, i, none⟩ (.int .i64 (t : Nat))).drew) := ((Fr.refl _ _ wr).setCell (p := ⟨w1.heap.size, i, none⟩) (Nat.le_refl _) (Nat.lt_succ_self _) _).drew
            have HU' : Hid (GC (wr.setCell ⟨w1.heap.size, i, none⟩ (.int .i64 (t : Nat))).drew W2.heap.size n (some ⟨w1.heap.size, 0, none⟩) n n) := HU.out.keepF F.out (.inr hz2)
            have HR' : Hid (Below w1.heap.size w1 (wr.setCell ⟨w1.heap.size, i, none⟩ (.int .i64 (t : Nat))).drew) := (HR.out.setCell (p := ⟨w1.heap.size, i, none⟩) (Nat.le_refl _) _).drew
            clear h1 h2 hz ht hcc hcl h2k e0 e1 q0 p1 K1 F
            go_wp2
            go_region
            clear q1 f1 p2 E2 d0 d1
            go_wp2
            go_roundw
            case rel => exact ⟨k + 1, by omega, by go_num, HO', HU', HR'⟩
            case measure => (simp [intOf] <;> omega)
        · obtain rfl : n = k := by omega
          have HO' : Hid (Own wr w1.heap.size (w1.heap.size + 1) 3 1 (some ⟨w1.heap.size, 0, none⟩) n n (fun j => .int .i64 (iK r s (i + 1) 0 j : Nat))) := HO.out.congr fun j _ => by
            have := Hnx.out i j
            rw [← Hn.out] at this
            rw [this]
          go_wp2
          go_roundw
          case rel => exact ⟨i + 1, by omega, by go_num, HO', HU, HR⟩
          case measure => (simp [intOf] <;> omega)
    · obtain rfl : n = i := by omega
      have e0 := HU.out.c0
      have e1 := HU.out.c1
      have HQr := Lib.hid (HQ.out.keep HR.out)
      have d0 := HQr.out.c0
      have d1 := HQr.out.c1
      have d2 := HQr.out.f0
      have d3 := HQr.out.f1
      have F := fr2 wr (w.heap.size + 1) (.int .i64 (n : Int)) (.slice (some ⟨w1.heap.size, 0, none⟩) n n)
      have hz1 := HB.out.below.size
      have hq1 := HQ.out.lt
      have HBz : Hid (From w wr) := ⟨HB.out.below.trans (HR.out.mono hz1)⟩
      have HE := (HBz.out.set (q := w.heap.size + 1) (Nat.le_succ _) (.int .i64 (n : Int)) (.slice (some ⟨w1.heap.size, 0, none⟩) n n)).below
      have hgl := HU.out.lt
      have HOE := (HO.out.keep F (.inr (by omega))).mono (by omega : w.heap.size ≤ w1.heap.size) (Nat.le_trans (show w1.heap.size + 1 ≤ wr.heap.size by omega) F.size)
      have HOF : Hid (Own ((wr.setCell ⟨w.heap.size + 1, 0, none⟩ (.int .i64 (n : Int))).setCell ⟨w.heap.size + 1, 1, none⟩ (.slice (some ⟨w1.heap.size, 0, none⟩) n n)) w.heap.size ((wr.setCell ⟨w.heap.size + 1, 0, none⟩ (.int .i64 (n : Int))).setCell ⟨w.heap.size + 1, 1, none⟩ (.slice (some ⟨w1.heap.size, 0, none⟩) n n)).heap.size 3 1 (some ⟨w1.heap.size, 0, none⟩) n n (fun j => .int .i64 (inR r s j : Nat))) := HOE.congr fun j hj => by
        have := Hfin.out j (by rw [← Hn.out]; omega)
        rw [← Hn.out] at this
        rw [this]
      clear HOE
      go_wp2
      exact bodyPost_ret (v := .agg #[.int .i64 (n : Int), .slice (some ⟨w1.heap.size, 0, none⟩) n n]) (by simp [results, Tryz.results308, go_sem, *]) rfl ⟨some ⟨w1.heap.size, 0, none⟩, n, by rw [← Hn.out], by rw [← Hn.out]; exact HOF.out, HE⟩
theorem ind_gv {A' : Option Addr} {m c' : Nat} {r : Nat → Nat} {s lo hi : Nat} {w' : World} (vg : VG m r) (hs : s < 2 ^ m) (h0 : s ≠ 0) (h : Own w' lo hi 3 1 A' (cn s) c' (fun j => .int .i64 (inR r s j : Nat))) (hhi : hi ≤ w'.heap.size) : GV w' A' (cn s) c' (inR r s) := by
  exact ⟨inR_vg vg hs h0, h.rd.keep (Below.refl _ _) hhi⟩
end Go.Proofs.YtdpkbfiggbcclaaGreat
