/-
  Contracts: the filling of a graph in an order, of the reference.
-/
import Derived.Test.YtncjfgebolikoaaQsGL
import Derived.Test.YtncjfgebolikoaaQsGC
import Derived.Test.YtncjfgebolikoaaQsGB
namespace Go.Proofs.Ytncjfgebolikoaa
open Go.RowKit

theorem aeX_or {m a b j : Nat} {r : Nat → Nat} (vg : VG m r) (ha : a < m) (hb : b < m) (hne : a ≠ b) :
    aeX (m : Int) m (fun v => (r v : Int)) (a : Int) (b : Int) j = ((orP r a b j : Nat) : Int) := by
  have hok : okB (m : Int) m (fun v => (r v : Int)) = true := okB_yes ⟨r, rfl, vg, fun _ _ => rfl⟩
  have hd : decide ((0 : Int) ≤ (a : Int) ∧ (a : Int) < (m : Int) ∧ (0 : Int) ≤ (b : Int) ∧ (b : Int) < (m : Int) ∧ (a : Int) ≠ (b : Int)) = true := decide_eq_true ⟨by omega, by omega, by omega, by omega, by omega⟩
  have hs := vg.sym a b ha hb
  cases hbit : (r a).testBit b
  · have hB : aeB (m : Int) m (fun v => (r v : Int)) (a : Int) (b : Int) = true := by
      unfold aeB; rw [hok, hd]; simp [hbit]
    unfold aeX
    rw [if_pos hB]
    simp only [Int.toNat_natCast]
    have h1 : r a ^^^ 2 ^ b = r a ||| 2 ^ b := (add_pow_bit hbit).symm.trans (or_of_add hbit)
    have h2 : r b ^^^ 2 ^ a = r b ||| 2 ^ a := by
      rw [hbit] at hs
      exact (add_pow_bit hs.symm).symm.trans (or_of_add hs.symm)
    unfold addN orP
    by_cases e1 : j = a
    · subst e1; rw [if_pos rfl, if_pos rfl, h1]
    · rw [if_neg e1, if_neg e1]
      by_cases e2 : j = b
      · subst e2; rw [if_pos rfl, if_pos rfl, h2]
      · rw [if_neg e2, if_neg e2]
  · have hB : aeB (m : Int) m (fun v => (r v : Int)) (a : Int) (b : Int) = false := by
      unfold aeB; rw [hok, hd]; simp [hbit]
    rw [aeX_no hB]
    have key : ∀ {y i : Nat}, y.testBit i = true → y ||| 2 ^ i = y := fun {y i} h => by
      apply Nat.eq_of_testBit_eq
      intro k
      rw [Nat.testBit_or, Nat.testBit_two_pow]
      by_cases hk : i = k
      · subst hk; simp [h]
      · simp [hk]
    rw [hbit] at hs
    unfold orP
    by_cases e1 : j = a
    · subst e1; rw [if_pos rfl, key hbit]
    · rw [if_neg e1]
      by_cases e2 : j = b
      · subst e2; rw [if_pos rfl, key hs.symm]
      · rw [if_neg e2]
/-- Rows of numbers that the call made. -/
structure OG (lo : Nat) (w : World) (A : Option Addr) (m c : Nat) (r : Nat → Nat) : Prop where
  own : Own w lo w.heap.size 3 1 A m c (fun j => .int .i64 (r j : Nat))
section
variable {w w' : World} {A : Option Addr} {c lo m : Nat} {r : Nat → Nat}
theorem OG.keep (h : OG lo w A m c r) (hb : Below w.heap.size w w') : OG lo w' A m c r := ⟨(h.own.keepB hb (Nat.le_refl _)).mono (Nat.le_refl _) hb.size⟩
theorem OG.gv (h : OG lo w A m c r) (vg : VG m r) : GV w A m c r := ⟨vg, h.own.rd⟩
theorem OG.drew (h : OG lo w A m c r) : OG lo w.drew A m c r := ⟨h.own.drew⟩
theorem ON.set {q : Nat} {AL : Option Addr} {cL : Nat} {L : List Nat} (h : ON (q + 1) w AL cL L) (x y : Value) : ON (q + 1) ((w.setCell ⟨q, 0, none⟩ x).setCell ⟨q, 1, none⟩ y) AL cL L :=
  ⟨(h.own.keep (fr2 w q x y) (.inr (Nat.le_refl _))).mono (Nat.le_refl _) (fr2 w q x y).size⟩
end
theorem LaterNeighbours_sv {A : Option Addr} {m c : Nat} {r : Nat → Nat} {Al : Option Addr} {n cl : Nat} {l : List Int} {w : World} (h : GV w A m c r) (hl : LI w Al n cl l) (hV : VZ m l) (hlen : l.length = m) {v : Int} (hv : v ∈ l) :
    Calls Try.prog 90 #[.agg #[.int .i64 m, .slice A m c], .slice Al n cl, .int .i64 v] w fun e w' => e = .returned (.int .i64 (ltN r l v : Nat)) ∧ Below w.heap.size w w' := by
  have := LaterNeighbours_s (m : Int) A m c (fun v => (r v : Int)) Al n cl l v w ⟨h.rd⟩ hl (by have := h.vg.n7; omega) (by have := h.vg.n7; rw [hl.len]; omega)
  rwa [ltZ_yes (orB_yes h.ok hV hlen) (hV.2 _ hv), rw_cast] at this
set_option maxRecDepth 100000 in
set_option maxHeartbeats 3200000 in
theorem l6Filled_s (A : Option Addr) (m c : Nat) (r : Nat → Nat) (Al : Option Addr) (cl : Nat) (l : List Int) (w : World) (h : GV w A m c r) (hl : LI w Al m cl l) (hV : VZ m l) (hlen : l.length = m) :
    Calls Try.prog 88 #[.agg #[.int .i64 m, .slice A m c], .slice Al m cl] w fun e w' => ∃ A' c', e = .returned (.agg #[.int .i64 m, .slice A' m c']) ∧ OG w.heap.size w' A' m c' (fl r l l.length) ∧ Below w.heap.size w w' := by
  obtain ⟨W, hW⟩ : ∃ W : World, W = ((w.alloc (Obj.cells #[Value.int IntKind.i64 m, Value.slice A m c] 26)).alloc (Obj.cells #[Value.int IntKind.i64 0, Value.slice none 0 0] 26)) := ⟨_, rfl⟩
  have HB : Hid (From w W) := by rw [hW]; exact ((From.alloc _ _).alloc_ _)
  have HZ : Hid (w.heap.size + 2 = W.heap.size) := by rw [hW]; simp [Hid]
  have HC : Hid (GC W (w.heap.size + 1) 0 none 0 0) := by rw [hW]; constructor <;> simp [go_sem]
  have HG : Hid (GC W w.heap.size m A m c) := by rw [hW]; constructor <;> simp [go_sem]
  have HK : Hid (GV W A m c r) := h.keep HB.out.below
  have HL := Lib.hid hl
  have HV := Lib.hid hV
  have HN := Lib.hid hlen
  have vg := h.vg
  have hm1 := vg.n1
  have hm7 := vg.n7
  have HVG := Lib.hid vg
  have HW := Lib.hid hW
  have e0 := HG.out.c0
  have e1 := HG.out.c1
  clear hW h hl hV hlen vg
  go_enter Try.func88, Try.ntmps88
  go_wp2_with fail
  rw [← HW.out]
  clear HW
  refine (l2Copy_any m A m c _ W W.heap.size HK.out.rd (Nat.le_refl _) (by omega)).mono ?_
  rintro e wq ⟨A', c', rfl, hO, hb1⟩
  clear e0 e1
  have z1 := hb1.size
  replace HB := Lib.hid (HB.out.keep hb1)
  replace HC := Lib.hid (HC.out.keep hb1)
  have HO : Hid (OG (w.heap.size + 2) wq A' m c' r) := ⟨hO.mono (by have := HZ.out; omega) (Nat.le_refl _)⟩
  have zw : w.heap.size + 2 ≤ wq.heap.size := by have := HZ.out; omega
  have hqw : w.heap.size ≤ wq.heap.size := by omega
  clear hO hb1 HK HG z1
  go_wp2
  go_loopw [6] (fun i wr => ∃ (k : Nat) (A4 : Option Addr) (c4 : Nat), k ≤ m ∧ i = .int .i64 k ∧ Hid (GC wr wq.heap.size m A4 m c4) ∧ Hid (OG (w.heap.size + 2) wr A4 m c4 (fl r l k)) ∧ Hid (From wq wr)) (fun i _ => m - (intOf i).toNat)
  case atStart => exact ⟨0, A', c', Nat.zero_le _, rfl, GC.new _ _ _ _ _, HO.out.keep (From.alloc wq _).below, From.alloc _ _⟩
  case round =>
    obtain ⟨k, A4, c4, hk, rfl, HQ, HY, HF⟩ := hrel
    have zr := HF.out.below.size
    by_cases hlt : k < m
    · have HFw : Hid (From w wr) := HB.out.keep HF.out.below
      have HLr := Lib.hid (HL.out.keep HFw.out.below)
      obtain ⟨b, o, rfl⟩ := HLr.out.addr (by omega)
      have hkl : k < l.length := by rw [HN.out]; exact hlt
      have hmem := getD_mem hkl
      have hvz := HV.out.2 _ hmem
      have Hmem := Lib.hid hmem
      have HVk : Hid (VG m (fl r l k)) := HVG.out.fl HV.out k (by omega)
      have hs : ltN (fl r l k) l (l.getD k 0) < 2 ^ m := ltN_lt HVk.out hvz.1 hvz.2
      have p0 := HLr.out.at hlt
      have HP : Hid (CL wr b (o + k) (.int .i64 (l.getD k 0))) := ⟨p0⟩
      have Hfl : Hid (fillN (fl r l k) (ltN (fl r l k) l (l.getD k 0)) = fl r l (k + 1)) := rfl
      obtain ⟨v, hv⟩ : ∃ v, v = l.getD k 0 := ⟨_, rfl⟩
      rw [← hv] at p0 HP Hfl hs Hmem
      obtain ⟨s, hse⟩ : ∃ s, s = ltN (fl r l k) l v := ⟨_, rfl⟩
      rw [← hse] at Hfl hs
      have Hse := Lib.hid hse
      have h2m := two_pow_le hm7
      have hs128 : s < 128 := by omega
      have i1 : (k : Int) < (m : Int) := by omega
      clear hv hse p0 hmem hvz
      have KL : Hid (∀ z : World, Below wr.heap.size wr z → Calls Try.prog 90 #[.agg #[.int .i64 m, .slice A4 m c4], .slice (some ⟨b, o, none⟩) m cl, .int .i64 v] z fun e w' => e = .returned (.int .i64 (s : Nat)) ∧ Below z.heap.size z w') := fun z hz => by
        have := LaterNeighbours_sv ((HY.out.keep hz).gv HVk.out) (HLr.out.keep hz) HV.out HN.out Hmem.out
        rwa [← Hse.out] at this
      have zq := HQ.out.lt
      obtain ⟨L, hL⟩ : ∃ L, L = listN s := ⟨_, rfl⟩
      have HLL := Lib.hid hL
      clear hL
      have KO : Hid (∀ z : World, Below wr.heap.size wr z → Calls Try.prog 64 #[.int .i64 s] z fun e w' => ∃ A c, e = .returned (.slice A L.length c) ∧ ON (wq.heap.size + 1) w' A c L ∧ Below z.heap.size z w') := fun z hz => by
        rw [HLL.out]
        exact (ListOf_sv s hs128 z).mono fun _ _ ⟨A, c, h1, h2, h3⟩ => ⟨A, c, h1, h2.mono (by have := hz.size; omega), h3⟩
      have q0 := HQ.out.c0
      have q1 := HQ.out.c1
      have p0 := HP.out.c
      have HSC : Hid (∀ z : World, Below wr.heap.size wr z → (Below wr.heap.size wr z ∧ z.cell? ⟨wq.heap.size, 0, none⟩ = some (.int .i64 m) ∧ z.cell? ⟨wq.heap.size, 1, none⟩ = some (.slice A4 m c4) ∧ z.cell? ⟨b, o + k, none⟩ = some (.int .i64 v))) := fun z hz => ⟨hz, up_ hz q0, up_ hz q1, up_ hz p0⟩
      have HZ0 : Hid (Below wr.heap.size wr wr.drew) := (Below.refl _ _).drew
      have HS1 := Lib.hid (HSC.out _ HZ0.out)
      have KR1 : Hid (∀ z : World, Below wr.heap.size wr z → _) := fun z hz => KL.out z hz
      have KR2 : Hid (∀ z : World, Below wr.heap.size wr z → _) := fun z hz => KO.out z hz
      go_wp2
      go_region_held3 (fun z => Below wr.heap.size wr z ∧ z.cell? ⟨wq.heap.size, 0, none⟩ = some (.int .i64 m) ∧ z.cell? ⟨wq.heap.size, 1, none⟩ = some (.slice A4 m c4) ∧ z.cell? ⟨b, o + k, none⟩ = some (.int .i64 v))
        (first | exact HS1.out | assumption | exact HSC.out _ hz2 | exact HSC.out _ hz1 | fail)
        (first | (go_at_call 90; ((with_reducible refine (KR1.out _ HZ0.out).mono ?_); rintro e w1 ⟨rfl, hb1⟩; have hz1 := bl_trans HZ0.out hb1)) | (go_at_call 64; ((with_reducible refine (KR2.out _ hz1).mono ?_); rintro e w2 ⟨AL, cL, rfl, hON, hb2⟩; have hz2 := bl_trans hz1 hb2)))
      clear q0 q1 p0
      replace HQ := Lib.hid (HQ.out.keep hz2)
      replace HY := Lib.hid (HY.out.keep hz2)
      replace HFw := Lib.hid (HFw.out.keep hz2)
      replace HLr := Lib.hid (HLr.out.keep hz2)
      replace HP := Lib.hid (HP.out.keep hz2)
      replace HF := Lib.hid (HF.out.keep hz2)
      clear hb1 hz1 hb2 hz2 HSC HZ0 HS1 KR1 KR2
      have q0 := HQ.out.c0
      have q1 := HQ.out.c1
      have p0 := HP.out.c
      obtain ⟨R, hR⟩ : ∃ R, R = fl r l k := ⟨_, rfl⟩
      rw [← hR] at HVk Hfl HY
      have hfold := fold_fill R hs hm7
      rw [← HLL.out, Hfl.out] at hfold
      have Hfold := Lib.hid hfold
      have hL7 : L.length ≤ 7 := by rw [HLL.out]; exact listN_len s
      have HON := Lib.hid hON
      have Hs := Lib.hid hs
      have zw3 := HF.out.below.size
      have HFk := HF
      clear hR hfold hON hs Hse KL KO HP HLr HFw p0 q0 q1 hkl Hmem hs128
      go_wp2
      go_loopw [8] (fun i wr => ∃ (a : Nat) (A5 : Option Addr) (c5 : Nat), a ≤ L.length ∧ i = .int .i64 a ∧ Hid (GC wr wq.heap.size m A5 m c5) ∧ Hid (OG (w.heap.size + 2) wr A5 m c5 (foldP R (psN L a 0))) ∧ Hid (ON (wq.heap.size + 1) wr AL cL L) ∧ Hid (From wq wr)) (fun i _ => L.length - (intOf i).toNat)
      case atStart => exact ⟨0, A4, c4, Nat.zero_le _, rfl, HQ, HY, HON, HF⟩
      case round =>
        clear HQ HY HON HF HFk zw3
        obtain ⟨a, A5, c5, ha, rfl, HQ, HY, HON, HF⟩ := hrel
        by_cases hal : a < L.length
        · have i2 : (a : Int) < (L.length : Int) := by omega
          go_wp2
          go_loopw [9] (fun i wr => ∃ (b : Nat) (A5 : Option Addr) (c5 : Nat), b ≤ a ∧ i = .int .i64 b ∧ Hid (GC wr wq.heap.size m A5 m c5) ∧ Hid (OG (w.heap.size + 2) wr A5 m c5 (foldP R (psN L a b))) ∧ Hid (ON (wq.heap.size + 1) wr AL cL L) ∧ Hid (From wq wr)) (fun i _ => a - (intOf i).toNat)
          case atStart => exact ⟨0, A5, c5, Nat.zero_le _, rfl, HQ, HY, HON, HF⟩
          case round =>
            clear HQ HY HON HF
            obtain ⟨j, A5, c5, hj, rfl, HQ, HY, HON, HF⟩ := hrel
            by_cases hja : j < a
            · obtain ⟨va, hva⟩ : ∃ va, va = L.getD a 0 := ⟨_, rfl⟩
              obtain ⟨vb, hvb⟩ : ∃ vb, vb = L.getD j 0 := ⟨_, rfl⟩
              have hjl : j < L.length := by omega
              obtain ⟨bL, oL, rfl⟩ := HON.out.ln.addr (by omega)
              have d2 : wr.drew.cell? ⟨bL, oL + a, none⟩ = some (.int .i64 (va : Nat)) := by rw [hva]; have := HON.out.ln.at hal; simpa [List.getD, hal] using this
              have d3 : wr.drew.cell? ⟨bL, oL + j, none⟩ = some (.int .i64 (vb : Nat)) := by rw [hvb]; have := HON.out.ln.at hjl; simpa [List.getD, hjl] using this
              have d0 : wr.drew.cell? ⟨wq.heap.size, 0, none⟩ = some (.int .i64 m) := HQ.out.c0
              have d1 : wr.drew.cell? ⟨wq.heap.size, 1, none⟩ = some (.slice A5 m c5) := HQ.out.c1
              have hvam : va < m := by rw [hva, HLL.out]; exact listN_lt Hs.out (by rw [← HLL.out]; exact hal)
              have hvbm : vb < m := by rw [hvb, HLL.out]; exact listN_lt Hs.out (by rw [← HLL.out]; exact hjl)
              have hne : va ≠ vb := by rw [hva, hvb, HLL.out]; exact getD_ne (by rw [← HLL.out]; exact hal) (by rw [← HLL.out]; exact hjl) (by omega)
              have hvg : VG m (foldP R (psN L a j)) := HVk.out.foldP _ (by rw [HLL.out]; exact psN_in Hs.out (.inl ⟨by rw [← HLL.out]; exact hal, by omega⟩))
              have Hnext : Hid (foldP R (psN L a (j + 1)) = orP (foldP R (psN L a j)) va vb) := by show _ = _; rw [psN_step, foldP_one, hva, hvb]
              have i3 : (j : Int) < (a : Int) := by omega
              have i4 : (j : Int) < (L.length : Int) := by omega
              have KA : Hid (Calls Try.prog 72 #[.agg #[.int .i64 m, .slice A5 m c5], .int .i64 va, .int .i64 vb] wr.drew fun e w' => ∃ A' c', e = .returned (.tuple #[.agg #[.int .i64 m, .slice A' m c'], .bool (aeB m m (fun v => (foldP R (psN L a j) v : Int)) va vb)]) ∧ OG (wq.heap.size + 1) w' A' m c' (foldP R (psN L a (j + 1))) ∧ Below wr.drew.heap.size wr.drew w') :=
                (AddEdge_s m A5 m c5 (fun v => (foldP R (psN L a j) v : Int)) va vb wr.drew wr.drew.heap.size (HY.out.drew.gv hvg).rd (Nat.le_refl _) (by omega)).mono fun _ _ ⟨A', c', h1, h2, h3⟩ =>
                  ⟨A', c', h1, ⟨(h2.congr (fun i hi => by rw [Hnext.out, aeX_or hvg hvam hvbm hne])).mono (by have : wq.heap.size < wr.drew.heap.size := HQ.out.lt; omega) (Nat.le_refl _)⟩, h3⟩
              have HSB : Hid (Below w.heap.size w wr.drew) := (HB.out.keep HF.out.below).drew.below
              have HQd : Hid (GC wr.drew wq.heap.size m A5 m c5) := HQ.out.drew
              have HONd : Hid (ON (wq.heap.size + 1) wr.drew (some ⟨bL, oL, none⟩) cL L) := ⟨HON.out.own.drew⟩
              have HFd : Hid (From wq wr.drew) := HF.out.drew
              have Hqw := Lib.hid hqw
              clear hva hvb hvam hvbm hne hvg hqw HQ HON HF HY
              go_wp2
              go_region_with (first | (go_at_call 72; ((with_reducible refine KA.out.mono ?_); rintro e w5 ⟨A6, c6, rfl, hO5, hb5⟩; have hn5 := HQd.out.keep hb5; have n0 := hn5.c0; have n1 := hn5.c1; have n2 := hn5.f0; have n3 := hn5.f1)))
              all_goals
                have HQ5 : Hid (GC ((w5.setCell ⟨wq.heap.size, 0, none⟩ (.int .i64 m)).setCell ⟨wq.heap.size, 1, none⟩ (.slice A6 m c6)) wq.heap.size m A6 m c6) := hn5.set
                have HO5 : Hid (OG (w.heap.size + 2) ((w5.setCell ⟨wq.heap.size, 0, none⟩ (.int .i64 m)).setCell ⟨wq.heap.size, 1, none⟩ (.slice A6 m c6)) A6 m c6 (foldP R (psN L a (j + 1)))) :=
                  ⟨(hO5.own.keep (fr2 w5 wq.heap.size _ _) (.inr (Nat.le_refl _))).mono (by omega) (fr2 w5 wq.heap.size _ _).size⟩
                have HON5 : Hid (ON (wq.heap.size + 1) ((w5.setCell ⟨wq.heap.size, 0, none⟩ (.int .i64 m)).setCell ⟨wq.heap.size, 1, none⟩ (.slice A6 m c6)) (some ⟨bL, oL, none⟩) cL L) := (HONd.out.keep hb5).set _ _
                have HF5 : Hid (From wq ((w5.setCell ⟨wq.heap.size, 0, none⟩ (.int .i64 m)).setCell ⟨wq.heap.size, 1, none⟩ (.slice A6 m c6))) := (HFd.out.keep hb5).set (Nat.le_refl _) _ _
                clear hn5 n0 n1 n2 n3 hO5 hb5 d0 d1 d2 d3
                go_wp2
                go_roundw
                case rel => exact ⟨j + 1, A6, c6, by omega, by go_num, HQ5, HO5, HON5, HF5⟩
                case measure => simp [intOf]; omega
            · obtain rfl : j = a := by omega
              have Hrow := Lib.hid (psN_row L j)
              go_wp2
              go_roundw
              case rel => exact ⟨j + 1, A5, c5, by omega, by go_num, HQ, by rw [Hrow.out]; exact HY, HON, HF⟩
              case measure => simp [intOf]; omega
        · obtain rfl : a = L.length := by omega
          rw [Hfold.out] at HY
          go_wp2
          go_roundw
          case rel => exact ⟨k + 1, A5, c5, by omega, by go_num, HQ, HY, HF⟩
          case measure => simp [intOf]; omega
    · obtain rfl : m = k := by omega
      have HCr := Lib.hid (HC.out.keep HF.out.below)
      have HBr := Lib.hid (HB.out.keep HF.out.below)
      have q0 := HQ.out.c0
      have q1 := HQ.out.c1
      have k0 := HCr.out.c0
      have k1 := HCr.out.c1
      have k2 := HCr.out.f0
      have k3 := HCr.out.f1
      go_wp2
      have F := fr2 wr (w.heap.size + 1) (Value.int .i64 m) (Value.slice A4 m c4)
      have O1 := (HY.out.own.keep F (.inr (Nat.le_refl _))).mono (lo' := w.heap.size) (by omega) F.size
      rw [HN.out]
      exact bodyPost_ret (v := .agg #[.int .i64 m, .slice A4 m c4]) (by simp [results, Try.results88, go_sem, k0, k1]) rfl ⟨A4, c4, rfl, ⟨O1⟩, (HBr.out.set (q := w.heap.size + 1) (by omega) _ _).below⟩
end Go.Proofs.Ytncjfgebolikoaa
