/-
  Contracts: how many ways through all vertices are there? (both sides)
-/
import Derived.Test.YtncjfgebolikoaaQsCutG
import Derived.Test.YtncjfgebolikoaaQsUmoI
namespace Go.Proofs.Ytncjfgebolikoaa
open Go.RowKit

/-- A number in a box that may be written. -/
structure CB (z : World) (q : Nat) (k : Int) : Prop where
  c : z.cell? ⟨q, 0, none⟩ = some (.int .i64 k)
  f : z.frozen? ⟨q, 0, none⟩ = false
theorem CB.keep {z z' : World} {q : Nat} {k : Int} (h : CB z q k) (hb : Below z.heap.size z z') : CB z' q k := ⟨up_ hb h.c, upf hb h.f (World.block_lt_of_cell? _ _ h.c)⟩
theorem wrap_succ (a : Int) : wrap64 (wrap64 a + 1) = wrap64 (a + 1) := by unfold wrap64; omega
/-- The captured variables of the count. -/
structure CJ (w z : World) (A : Option Addr) (m c : Nat) (k : Int) : Prop where
  fr : From w z
  c0 : z.cell? ⟨w.heap.size, 0, none⟩ = some (.int .i64 m)
  c1 : z.cell? ⟨w.heap.size, 1, none⟩ = some (.slice A m c)
  n : CB z (w.heap.size + 1) k
theorem CJ.keep {w z z' : World} {A : Option Addr} {m c : Nat} {k : Int} (h : CJ w z A m c k) (hb : Below z.heap.size z z') : CJ w z' A m c k := ⟨h.fr.keep hb, up_ hb h.c0, up_ hb h.c1, h.n.keep hb⟩
theorem CJ.box {w z : World} {A : Option Addr} {m c : Nat} {k : Int} {r : Nat → Nat} (h : CJ w z A m c k) (hv : GV w A m c r) : GBox z w.heap.size A m c r := ⟨hv.keep h.fr.below, h.c0, h.c1, World.block_lt_of_cell? _ _ h.c0⟩
theorem CJ.set {w z z' : World} {A : Option Addr} {m c : Nat} {k k' : Int} (h : CJ w z A m c k) (hf : Fr (w.heap.size + 1) (w.heap.size + 2) z z') (hn : CB z' (w.heap.size + 1) k') : CJ w z' A m c k' :=
  ⟨⟨h.fr.below.trans (hf.below (by omega) h.fr.below.size)⟩, frC_ hf h.c0 (World.block_lt_of_cell? _ _ h.c0) (.inl (by omega)), frC_ hf h.c1 (World.block_lt_of_cell? _ _ h.c1) (.inl (by omega)), hn⟩
section
variable {A : Option Addr} {m c : Nat} {r : Nat → Nat}
set_option maxRecDepth 100000 in
set_option maxHeartbeats 1600000 in
theorem CntF {q : Nat} {Al : Option Addr} {cl : Nat} {l : List Nat} {w : World} (h : GBox w q A m c r) (hl : LN w Al cl l) (hlt : ∀ v ∈ l, v < m) (h0 : l ≠ []) (hlen : l.length ≤ 7) :
    Calls Try.prog 47 #[.slice Al l.length cl, .pointer (some ⟨q, 0, none⟩)] w fun e w' => e = .returned (.bool (wayB r l)) ∧ Below w.heap.size w w' := by
  have KW : Hid (Calls Try.prog 13 #[.agg #[.int .i64 m, .slice A m c], .slice Al l.length cl] w fun e w' => e = .returned (.bool (wayB r l)) ∧ Below w.heap.size w w') := by
    have := IsWay_i m A c (fun v => (r v : Int)) Al l.length cl l w w.heap.size h.gv.rd ⟨rfl, hl.rd⟩ (Nat.le_refl _) h.gv.ok hlen h0 hlt
    rwa [rw_cast] at this
  have e0 := h.c0
  have e1 := h.c1
  have HF : Hid (From w w) := From.refl w
  clear h hl hlt h0
  go_enter Try.func47, Try.ntmps47
  go_wp2_with fail
  refine KW.out.mono ?_
  rintro e w1 ⟨rfl, hb1⟩
  replace HF := Lib.hid (HF.out.keep hb1)
  clear hb1
  go_wp2
  go_ret
  exact ⟨rfl, HF.out.below⟩
set_option maxRecDepth 100000 in
set_option maxHeartbeats 1600000 in
theorem CntH {q n cl : Nat} {Al : Option Addr} {k : Int} {w : World} (h : CB w q k) :
    Calls Try.prog 48 #[.slice Al n cl, .pointer (some ⟨q, 0, none⟩)] w fun e w' => e = .returned (.bool false) ∧ CB w' q (wrap64 (k + 1)) ∧ Fr q (q + 1) w w' := by
  have e0 := h.c
  have e1 := h.f
  have HF : Hid (Fr q (q + 1) w (w.setCell ⟨q, 0, none⟩ (.int .i64 (wrap64 (k + 1))))) := (Fr.refl _ _ w).setCell (p := ⟨q, 0, none⟩) (Nat.le_refl _) (Nat.lt_succ_self _) _
  have HC : Hid (CB (w.setCell ⟨q, 0, none⟩ (.int .i64 (wrap64 (k + 1)))) q (wrap64 (k + 1))) := by constructor <;> simp [go_sem, e0, e1]
  clear h
  go_enter Try.func48, Try.ntmps48
  go_wp2
  go_ret
  exact ⟨rfl, HC.out, HF.out⟩
end
section
variable (sz : Int) (A : Option Addr) (m c : Nat) (x : Nat → Int) (w : World)
set_option maxRecDepth 100000 in
set_option maxHeartbeats 3200000 in
theorem CountHamiltonPaths_i (h : GA w A m c x) (hm : m ≤ 1048576) :
    Calls Try.prog 20 #[.agg #[.int .i64 sz, .slice A m c]] w fun e w' => e = .returned (.int .i64 (chI sz m x)) ∧ Below w.heap.size w w' := by
  obtain ⟨W, hW⟩ : ∃ W : World, W = ((w.alloc (Obj.cells #[Value.int IntKind.i64 sz, Value.slice A m c] 26)).alloc (Obj.cells #[Value.int IntKind.i64 0] 3)) := ⟨_, rfl⟩
  have HB : Hid (From w W) := by rw [hW]; exact (From.alloc _ _).alloc_ _
  have HK := Lib.hid (h.keep HB.out.below)
  have HC : Hid (GC W w.heap.size sz A m c) := by rw [hW]; exact (GC.new _ _ _ _ _).keep ((Below.refl _ _).alloc (Nat.le_refl _) _)
  have HN : Hid (CB W (w.heap.size + 1) 0) := by rw [hW]; constructor <;> simp [go_sem]
  have hlw : w.heap.size + 2 = W.heap.size := by rw [hW]; simp
  have HW := Lib.hid hW
  clear hW
  have e0 := HC.out.c0
  have e1 := HC.out.c1
  have e2 := HN.out.c
  cases ho : okB sz m x
  · have Hno : Hid (chI sz m x = 0) := chI_no ho
    have KF := Lib.hid (firstList_noG (n := sz) (fm := 47) (cm := #[.pointer (some ⟨w.heap.size, 0, none⟩)]) (fh := 48) (ch := #[.pointer (some ⟨w.heap.size + 1, 0, none⟩)]) HK.out hm ho)
    clear ho h
    go_enter Try.func20, Try.ntmps20
    go_wp2_with fail
    rw [← HW.out]
    clear HW
    refine KF.out.mono ?_
    rintro e w1 ⟨rfl, hb1⟩
    have HN1 := Lib.hid (HN.out.keep hb1)
    have HB1 := Lib.hid (HB.out.keep hb1)
    have f2 := HN1.out.c
    clear hb1 e0 e1 e2
    go_wp2
    go_ret
    exact ⟨ret_int Hno.out.symm, HB1.out.below⟩
  · have HY : Hid (chI sz m x = ((cwU (rw_ x) m (m - 1) [] m : Nat) : Int)) := chI_yes ho
    obtain ⟨_, es, vg0, _⟩ := okB_ok' ho
    subst es
    have hn1 := vg0.n1
    have hn7 := vg0.n7
    have HV : Hid (GV W A m c (rw_ x)) := GV.of HK.out.rd (Nat.le_refl _) ho
    obtain ⟨r, hr⟩ : ∃ r, r = rw_ x := ⟨_, rfl⟩
    rw [← hr] at HV HY
    have HV0 : Hid (GV w A m c r) := by rw [hr]; exact GV.of h.rd (Nat.le_refl _) ho
    have h00 : wrap64 ((([] : List (List Nat)).length : Nat) : Int) = 0 := by rw [List.length_nil]; exact Go.IntWalk.wrap64_in _ (by omega)
    have HJ : Hid (CJ w W A m c (wrap64 ((([] : List (List Nat)).length : Nat) : Int))) := by rw [h00]; exact ⟨HB.out, e0, e1, HN.out⟩
    clear h00
    have KF := Lib.hid (firstList_g (m := m) (n := m) (A := A) (c := c) (r := r) (fm := 47) (cm := #[.pointer (some ⟨w.heap.size, 0, none⟩)]) (fh := 48) (ch := #[.pointer (some ⟨w.heap.size + 1, 0, none⟩)]) (may := wayB r) (hol := fun _ => false) (lo := w.heap.size + 1) (hi := w.heap.size + 2) (J := fun vis z => CJ w z A m c (wrap64 (vis.length : Nat)))
      (ent_of Try.func47 (by kernel_rfl) rfl) (ent_of Try.func48 (by kernel_rfl) rfl) W HV.out hn1 (by omega) (fun _ z z' hz hb => hz.keep hb) HJ.out
      (fun _ l A' c' z hz hr h0 hv hn => CntF (hz.box HV0.out) ⟨hr⟩ hv h0 (by have := nodup_len hn hv; omega))
      (fun vis l A' c' z hz _ _ _ _ => (CntH (Al := A') (n := l.length) (cl := c') hz.n).mono fun e w' ⟨h1, h2, h3⟩ => by
        rw [wrap_succ] at h2
        exact ⟨h1, hz.set h3 (by rw [List.length_append, List.length_singleton]; exact h2), h3⟩))
    have hcw : cwU r m (m - 1) [] m = (visG m (wayB r) m []).length := cw_all hn1
    have hle := cwU_le (r := r) (l := []) hn7 (show m - 1 + 1 ≤ 7 by omega) (Nat.le_refl m)
    rw [seaG_false] at KF
    obtain ⟨N, hN⟩ : ∃ N, N = cwU r m (m - 1) [] m := ⟨_, rfl⟩
    rw [← hN] at hcw hle HY
    have HE : Hid (wrap64 (((visG m (wayB r) m []).length : Nat) : Int) = (N : Int)) := by show _ = _; rw [← hcw]; exact Go.IntWalk.wrap64_in _ (by omega)
    clear ho vg0 hr hcw hN h HV HV0 HJ
    go_enter Try.func20, Try.ntmps20
    go_wp2_with fail
    rw [← HW.out]
    clear HW
    refine KF.out.mono ?_
    rintro e w1 ⟨hf, rfl, hj⟩
    rw [HE.out] at hj
    have HJ1 := Lib.hid hj
    have f2 := hj.n.c
    clear hf hj e0 e1 e2 KF
    go_wp2
    go_ret
    exact ⟨ret_int HY.out.symm, HJ1.out.fr.below⟩
end
theorem way_one {r : Nat → Nat} {m v : Nat} (hv : v < m) : Way r m false [v] := by
  have h : cnd r false [] v = true := rfl
  exact (Way.nil r m false).snoc hv h
section
variable {A : Option Addr} {m c : Nat} {r : Nat → Nat}
set_option maxRecDepth 100000 in
set_option maxHeartbeats 6400000 in
theorem l28Count_s : ∀ (k : Nat) (l : List Nat) (a s : Nat) (w : World), l.length + k = m → Way r m false l → l.getLast? = some a → US m l s → GV w A m c r →
    Calls Try.prog 51 #[.agg #[.int .i64 m, .slice A m c], .int .i64 a, .int .i64 s] w fun e w' => e = .returned (.int .i64 (cwN r m k l : Nat)) ∧ Below w.heap.size w w' := by
  intro k
  induction k with
  | zero =>
    intro l a s w hl hw ha hs hv
    have hm7 := hv.vg.n7
    have h128 := two_pow_le hm7
    have hpos := Nat.two_pow_pos m
    have hF : s = 2 ^ m - 1 := (hs.full hw.nodup hw.lt).2 (by omega)
    obtain ⟨F, hF2⟩ : ∃ F, F = 2 ^ m - 1 := ⟨_, rfl⟩
    have p2 := pow_shl m hm7
    have pc : (2 : Int) ^ m = ((2 ^ m : Nat) : Int) := by simp
    have s1 : wrap64 ((2 : Int) ^ m - 1) = (F : Int) := by
      have : (2 : Int) ^ m - 1 = (F : Int) := by rw [pc, hF2]; omega
      rw [this]; exact Go.IntWalk.wrap64_in (F : Int) (by rw [hF2]; omega)
    obtain rfl : s = F := by omega
    have hlt : w.heap.size < (w.alloc (Obj.cells #[Value.int IntKind.i64 m, Value.slice A m c] 26)).heap.size := by simp
    clear hF hF2 pc hs hw ha hl hv
    go_enter Try.func51, Try.ntmps51
    go_wp2
    go_ret
    exact ⟨ret_int (by rw [cwN_zero]; rfl), (Below.refl _ _).alloc (Nat.le_refl _) _⟩
  | succ k ih =>
    intro l a s w hl hw ha hs hv
    have IH := Lib.hid ih
    have hm7 := hv.vg.n7
    have h128 := two_pow_le hm7
    have hpos := Nat.two_pow_pos m
    have hF : s ≠ 2 ^ m - 1 := fun e => by have := (hs.full hw.nodup hw.lt).1 e; omega
    obtain ⟨F, hF2⟩ : ∃ F, F = 2 ^ m - 1 := ⟨_, rfl⟩
    have p2 := pow_shl m hm7
    have pc : (2 : Int) ^ m = ((2 ^ m : Nat) : Int) := by simp
    have s1 : wrap64 ((2 : Int) ^ m - 1) = (F : Int) := by
      have : (2 : Int) ^ m - 1 = (F : Int) := by rw [pc, hF2]; omega
      rw [this]; exact Go.IntWalk.wrap64_in (F : Int) (by rw [hF2]; omega)
    have hne : ((s : Int) == (F : Int)) = false := by simp; omega
    have hne2 : (s = F) = False := by simp; omega
    have hs128 : s < 128 := by have := hs.lt; omega
    have ham : a < m := hw.lt a (List.mem_of_getLast? ha)
    obtain ⟨W, hW⟩ : ∃ W : World, W = (w.alloc (Obj.cells #[Value.int IntKind.i64 m, Value.slice A m c] 26)) := ⟨_, rfl⟩
    have HB : Hid (From w W) := by rw [hW]; exact From.alloc _ _
    have HG : Hid (GBox W w.heap.size A m c r) := by rw [hW]; exact hv.box
    have HW := Lib.hid hW
    have Hl := Lib.hid hl
    have Hw := Lib.hid hw
    have Ha := Lib.hid ha
    have Hs := Lib.hid hs
    have e0 := HG.out.c0
    have e1 := HG.out.c1
    clear hF hF2 pc hs hw ha hl hv hW ih
    go_enter Try.func51, Try.ntmps51
    go_wp2
    rw [← HW.out]
    clear HW e0 e1 s1 hne hne2
    go_loopw [7, 8] (fun n i wr => ∃ v : Nat, v ≤ m ∧ i = .int .i64 v ∧ n = .int .i64 (cwU r m k l v : Nat) ∧ Hid (From W wr)) (fun _ i _ => m - (intOf i).toNat)
    case atStart => exact ⟨0, Nat.zero_le _, rfl, rfl, From.refl _⟩
    case round =>
      obtain ⟨v, hvm, rfl, rfl, HR⟩ := hrel
      have HGr := Lib.hid (HG.out.keep HR.out.below)
      have e0 := HGr.out.c0
      have e1 := HGr.out.c1
      by_cases hlt : v < m
      · have i1 : (v : Int) < (m : Int) := by omega
        have E := and_one_i64' (s : Int) v (by omega) (by omega)
        rw [Int.toNat_natCast, Hs.out.bit] at E
        have hO := okW (v := v) Hw.out Ha.out
        by_cases hvl : v ∈ l
        · rw [decide_eq_true hvl] at E hO
          have Hn : Hid (cwU r m k l (v + 1) = cwU r m k l v) := cwU_no hO
          clear hO hvl
          go_wp2
          go_roundw
          case rel => exact ⟨v + 1, by omega, by go_num, by rw [Hn.out], HR⟩
          case measure => (simp [intOf] <;> omega)
        · have HSn := Lib.hid (Hs.out.snoc hlt hvl)
          have Hnl := Lib.hid hvl
          rw [decide_eq_false hvl] at E hO
          have KE : Hid (Calls Try.prog 43 #[.agg #[.int .i64 m, .slice A m c], .int .i64 a, .int .i64 v] wr fun e w' => e = .returned (.bool (edg r a v)) ∧ Below wr.heap.size wr w') := l2Edge_v HGr.out.gv ham hlt
          cases he : edg r a v
          · rw [he] at hO KE
            have Hn : Hid (cwU r m k l (v + 1) = cwU r m k l v) := cwU_no hO
            clear hO hvl he
            go_wp2_with fail
            refine KE.out.mono ?_
            rintro e w2 ⟨rfl, hb2⟩
            replace HR := Lib.hid (HR.out.keep hb2)
            clear hb2 e0 e1 KE HGr
            go_wp2
            go_roundw
            case rel => exact ⟨v + 1, by omega, by go_num, by rw [Hn.out], HR⟩
            case measure => (simp [intOf] <;> omega)
          · rw [he] at hO KE
            have Hn : Hid (cwU r m k l (v + 1) = cwU r m k l v + cwN r m k (l ++ [v])) := cwU_yes hO
            have Hcw : Hid (Way r m false (l ++ [v])) := Hw.out.snoc hlt (by rw [cnd_path Hw.out hvl, ← okG_out (may := wayB r) hvl]; exact hO)
            clear hO hvl he
            go_wp2_with fail
            refine KE.out.mono ?_
            rintro e w2 ⟨rfl, hb2⟩
            replace HR := Lib.hid (HR.out.keep hb2)
            clear hb2 e0 e1 KE HGr
            have HGr := Lib.hid (HG.out.keep HR.out.below)
            have e0 := HGr.out.c0
            have e1 := HGr.out.c1
            have hk7 : k + 1 ≤ 7 := by have := Hl.out; omega
            have b1 := cwU_le (r := r) (l := l) hm7 hk7 hvm
            have b2 := cwN_le (r := r) (l := l ++ [v]) hm7 (show k ≤ 7 by omega)
            obtain ⟨X, hX⟩ : ∃ X, X = cwN r m k (l ++ [v]) := ⟨_, rfl⟩
            have KI : Hid (∀ z : World, Below w2.heap.size w2 z → Calls Try.prog 51 #[.agg #[.int .i64 m, .slice A m c], .int .i64 v, .int .i64 (s + 2 ^ v : Nat)] z fun e w' => e = .returned (.int .i64 (X : Nat)) ∧ Below z.heap.size z w') := fun z hz => by
              rw [hX]
              exact IH.out (l ++ [v]) v (s + 2 ^ v) z (by rw [List.length_append, List.length_singleton]; have := Hl.out; omega) Hcw.out (by simp) HSn.out (HGr.out.gv.keep hz)
            rw [← hX] at Hn b2
            obtain ⟨Y, hY⟩ : ∃ Y, Y = cwU r m k l v := ⟨_, rfl⟩
            rw [← hY] at Hn b1 ⊢
            have p1 := pow_shl v (by omega)
            obtain ⟨S2, hS2⟩ : ∃ S2, S2 = s + 2 ^ v := ⟨_, rfl⟩
            have hsn := HSn.out.lt
            rw [← hS2] at hsn
            have pv : (s : Int) + (2 : Int) ^ v = (S2 : Int) := by rw [hS2]; simp
            have s2 : IntKind.i64.wrap ((s : Int) + 2 ^ v) = (S2 : Int) := by rw [pv]; exact Go.IntWalk.i64_in _ (by omega)
            rw [← hS2] at KI
            have s3 : IntKind.i64.wrap ((Y : Int) + (X : Int)) = ((Y + X : Nat) : Int) := by
              rw [Go.IntWalk.i64_in _ (by omega)]; omega
            obtain ⟨Z, hZ⟩ : ∃ Z, Z = Y + X := ⟨_, rfl⟩
            rw [← hZ] at s3 Hn
            have HR0 : Hid (From w2 w2) := From.refl _
            clear hX hY hS2 hZ pv hsn HSn Hcw
            have HSC : Hid (∀ z : World, Below w2.heap.size w2 z → (Below w2.heap.size w2 z ∧ z.cell? ⟨w.heap.size, 0, none⟩ = some (.int .i64 (m : Nat)) ∧ z.cell? ⟨w.heap.size, 1, none⟩ = some (.slice A m c))) := fun z hz => ⟨hz, up_ hz e0, up_ hz e1⟩
            have HZ0 : Hid (Below w2.heap.size w2 w2.drew) := (Below.refl _ _).drew
            have HS1 := Lib.hid (HSC.out _ HZ0.out)
            have KR1 : Hid (∀ z : World, Below w2.heap.size w2 z → _) := fun z hz => KI.out z hz
            go_wp2
            go_region_held3 (fun z => Below w2.heap.size w2 z ∧ z.cell? ⟨w.heap.size, 0, none⟩ = some (.int .i64 (m : Nat)) ∧ z.cell? ⟨w.heap.size, 1, none⟩ = some (.slice A m c))
              (first | exact HS1.out | assumption | exact HSC.out _ hz1 | fail)
              (first | (go_at_call 51; ((with_reducible refine (KR1.out _ HZ0.out).mono ?_); rintro e w1 ⟨rfl, hb1⟩; have hz1 := bl_trans HZ0.out hb1)))
            replace HR0 := Lib.hid (HR0.out.keep hz1)
            clear hb1 hz1 HSC HZ0 HS1 KR1
            have HRn := Lib.hid (HR.out.up HR0.out)
            clear KI HR HR0
            go_wp2
            go_roundw
            case rel => exact ⟨v + 1, by omega, by go_num, by rw [Hn.out], HRn⟩
            case measure => (simp [intOf] <;> omega)
      · obtain rfl : v = m := by omega
        have i1 : (v : Int) ≤ (v : Int) := Int.le_refl _
        go_wp2
        go_ret
        exact ⟨ret_int (by rw [cwU_all]), (HB.out.up HR.out).below⟩
end
section
variable (sz : Int) (A : Option Addr) (m c : Nat) (x : Nat → Int) (w : World)
set_option maxRecDepth 100000 in
set_option maxHeartbeats 3200000 in
theorem CountHamiltonPaths_s (h : GA w A m c x) (hm : m ≤ 1048576) :
    Calls Try.prog 23 #[.agg #[.int .i64 sz, .slice A m c]] w fun e w' => e = .returned (.int .i64 (chI sz m x)) ∧ Below w.heap.size w w' := by
  obtain ⟨W, hW⟩ : ∃ W : World, W = (w.alloc (Obj.cells #[Value.int IntKind.i64 sz, Value.slice A m c] 26)) := ⟨_, rfl⟩
  have HB : Hid (From w W) := by rw [hW]; exact From.alloc _ _
  have HK := Lib.hid (h.keep HB.out.below)
  have HC : Hid (GC W w.heap.size sz A m c) := by rw [hW]; exact GC.new _ _ _ _ _
  have HW := Lib.hid hW
  clear hW h
  cases ho : okB sz m x
  · have Hno : Hid (chI sz m x = 0) := chI_no ho
    have e0 := HC.out.c0
    have e1 := HC.out.c1
    have Ho := Lib.hid ho
    clear ho
    by_cases h0 : 0 < sz
    · go_enter Try.func23, Try.ntmps23
      go_wp2_with fail
      rw [← HW.out]
      clear HW
      refine wp_loop_rounds 1 ?_
      rw [rounds_succ]
      go_wp2_with fail
      refine (IsGraph_sany sz A m c x W W.heap.size HK.out.rd (Nat.le_refl _) hm).mono ?_
      rintro e w1 ⟨rfl, hb1⟩
      rw [Ho.out]
      have HB1 := Lib.hid (HB.out.keep hb1)
      clear hb1
      go_wp2
      go_ret
      exact ⟨ret_int Hno.out.symm, HB1.out.below⟩
    · have h1 : sz ≤ 0 := by omega
      clear h0
      go_enter Try.func23, Try.ntmps23
      go_wp2_with fail
      rw [← HW.out]
      clear HW
      refine wp_loop_rounds 1 ?_
      rw [rounds_succ]
      go_wp2
      go_ret
      exact ⟨ret_int Hno.out.symm, HB.out.below⟩
  · have HY : Hid (chI sz m x = ((cwU (rw_ x) m (m - 1) [] m : Nat) : Int)) := chI_yes ho
    obtain ⟨_, es, vg0, _⟩ := okB_ok' ho
    subst es
    have hn1 := vg0.n1
    have hn7 := vg0.n7
    have HV : Hid (GV W A m c (rw_ x)) := GV.of HK.out.rd (Nat.le_refl _) ho
    obtain ⟨r, hr⟩ : ∃ r, r = rw_ x := ⟨_, rfl⟩
    rw [← hr] at HV HY
    obtain ⟨k, hk⟩ : ∃ k, k = m - 1 := ⟨_, rfl⟩
    rw [← hk] at HY
    have hk1 : k + 1 = m := by omega
    clear ho vg0 hr HK hk
    go_enter Try.func23, Try.ntmps23
    go_wp2_with fail
    rw [← HW.out]
    clear HW
    go_loopw [3, 4] (fun n i wr => ∃ v : Nat, v ≤ m ∧ i = .int .i64 v ∧ n = .int .i64 (cwU r m k [] v : Nat) ∧ Hid (From W wr)) (fun _ i _ => m - (intOf i).toNat)
    case atStart => exact ⟨0, Nat.zero_le _, rfl, rfl, From.refl _⟩
    case round =>
      obtain ⟨v, hvm, rfl, rfl, HR⟩ := hrel
      have HCr := Lib.hid (HC.out.keep HR.out.below)
      have e0 := HCr.out.c0
      have e1 := HCr.out.c1
      by_cases hlt : v < m
      · have i1 : (v : Int) < (m : Int) := by omega
        have KG := Lib.hid (IsGraph_sv (HV.out.keep HR.out.below))
        go_wp2_with fail
        refine KG.out.mono ?_
        rintro e w2 ⟨rfl, hb2⟩
        replace HR := Lib.hid (HR.out.keep hb2)
        clear e0 e1 HCr hb2 KG
        have HCr := Lib.hid (HC.out.keep HR.out.below)
        have e0 := HCr.out.c0
        have e1 := HCr.out.c1
        have Hn : Hid (cwU r m k [] (v + 1) = cwU r m k [] v + cwN r m k ([] ++ [v])) := cwU_yes (okW_nil hlt)
        rw [List.nil_append] at Hn
        have b1 := cwU_le (r := r) (l := []) hn7 (show k + 1 ≤ 7 by omega) hvm
        have b2 := cwN_le (r := r) (l := [v]) hn7 (show k ≤ 7 by omega)
        obtain ⟨X, hX⟩ : ∃ X, X = cwN r m k [v] := ⟨_, rfl⟩
        have p1 := pow_shl v (by omega)
        have KI : Hid (∀ z : World, Below w2.heap.size w2 z → Calls Try.prog 51 #[.agg #[.int .i64 m, .slice A m c], .int .i64 v, .int .i64 (2 ^ v)] z fun e w' => e = .returned (.int .i64 (X : Nat)) ∧ Below z.heap.size z w') := fun z hz => by
          rw [hX]
          have := l28Count_s (r := r) k [v] v (2 ^ v) z (by rw [List.length_singleton]; omega) (way_one hlt) rfl (US.one hlt) ((HV.out.keep HR.out.below).keep hz)
          rwa [pow_cast] at this
        rw [← hX] at Hn b2
        obtain ⟨Y, hY⟩ : ∃ Y, Y = cwU r m k [] v := ⟨_, rfl⟩
        rw [← hY] at Hn b1 ⊢
        have s3 : IntKind.i64.wrap ((Y : Int) + (X : Int)) = ((Y + X : Nat) : Int) := by
          rw [Go.IntWalk.i64_in _ (by omega)]; omega
        obtain ⟨Z, hZ⟩ : ∃ Z, Z = Y + X := ⟨_, rfl⟩
        rw [← hZ] at s3 Hn
        have HR0 : Hid (From w2 w2) := From.refl _
        clear hX hY hZ
        have HSC : Hid (∀ z : World, Below w2.heap.size w2 z → (Below w2.heap.size w2 z ∧ z.cell? ⟨w.heap.size, 0, none⟩ = some (.int .i64 (m : Nat)) ∧ z.cell? ⟨w.heap.size, 1, none⟩ = some (.slice A m c))) := fun z hz => ⟨hz, up_ hz e0, up_ hz e1⟩
        have HZ0 : Hid (Below w2.heap.size w2 w2.drew) := (Below.refl _ _).drew
        have HS1 := Lib.hid (HSC.out _ HZ0.out)
        have KR1 : Hid (∀ z : World, Below w2.heap.size w2 z → _) := fun z hz => KI.out z hz
        go_wp2
        go_region_held3 (fun z => Below w2.heap.size w2 z ∧ z.cell? ⟨w.heap.size, 0, none⟩ = some (.int .i64 (m : Nat)) ∧ z.cell? ⟨w.heap.size, 1, none⟩ = some (.slice A m c))
          (first | exact HS1.out | assumption | exact HSC.out _ hz1 | fail)
          (first | (go_at_call 51; ((with_reducible refine (KR1.out _ HZ0.out).mono ?_); rintro e w1 ⟨rfl, hb1⟩; have hz1 := bl_trans HZ0.out hb1)))
        replace HR0 := Lib.hid (HR0.out.keep hz1)
        clear hb1 hz1 HSC HZ0 HS1 KR1
        have HRn := Lib.hid (HR.out.up HR0.out)
        clear KI HR HR0
        go_wp2
        go_roundw
        case rel => exact ⟨v + 1, by omega, by go_num, by rw [Hn.out], HRn⟩
        case measure => (simp [intOf] <;> omega)
      · obtain rfl : v = m := by omega
        have i1 : (v : Int) ≤ (v : Int) := Int.le_refl _
        go_wp2
        go_ret
        exact ⟨ret_int HY.out.symm, (HB.out.up HR.out).below⟩
end
end Go.Proofs.Ytncjfgebolikoaa
