/-
  Several texts in one: words for memory, plain laws and contracts that the later texts lean on.
-/
import Derived.Test.YtmkahbephidmbaaGreatQhSmI
import Derived.Test.YtmkahbephidmbaaGreatQhSwI
/-
  Contracts: the first graph of a number of vertices that is outside a class. The reference's.
-/
namespace Go.Proofs.YtmkahbephidmbaaGreat
open Go.RowKit

theorem pr_at {n v u : Nat} (hv : v < n) (hu : v + 1 ≤ u) (hun : u < n) : (pr n).getD (prTo n v u).length (0, 0) = (v, u) ∧ (prTo n v u).length < (pr n).length := by
  obtain ⟨t, ht⟩ := prTo_prefix n v (u + 1) hv (by omega) (by omega)
  rw [prTo_step n v u hu] at ht
  rw [ht]
  constructor
  · simp [List.getD]
  · simp
/-- A graph under way: its box, its rows beside the box. -/
structure SmW (lo0 : Nat) (z : World) (q n : Nat) (R : Nat → Nat) : Prop where
  ex : ∃ A c lo hi, GC z q n A n c ∧ Own z lo hi 3 1 A n c (fun j => .int .i64 (R j : Nat)) ∧ (hi ≤ q ∨ q + 1 ≤ lo) ∧ lo0 ≤ lo ∧ hi ≤ z.heap.size
set_option maxRecDepth 100000 in
set_option maxHeartbeats 12800000 in
theorem SmallestOutside_s (str : ByteArray) (i : Int) (w : World) : Calls Tryz.prog 36 #[.string str, .int .i64 i] w (smQ str.toList i w) := by
  obtain ⟨W, hW⟩ : ∃ W : World, W = w.alloc (Obj.cells #[Value.int IntKind.i64 0, Value.slice none 0 0] 30) := ⟨_, rfl⟩
  have HB : Hid (From w W) := by rw [hW]; exact From.alloc _ _
  have HQ : Hid (GC W w.heap.size 0 none 0 0) := by rw [hW]; exact GC.new _ _ _ _ _
  have HW := Lib.hid hW
  obtain ⟨b, hb⟩ : ∃ b, b = nmB str.toList := ⟨_, rfl⟩
  have KC : Hid (∀ z A c, Own z W.heap.size z.heap.size 9 1 A 9 c (strs nm) → Calls Tryz.prog 107 #[.slice A 9 c, .string str] z fun e w' => e = .returned (.bool b) ∧ z = w') := fun z A c h => by rw [hb]; exact l8Text_v A c str z h.rdV
  clear hW
  by_cases hc : b = true ∧ 1 ≤ i ∧ i ≤ 5
  · obtain ⟨hbt, hi1, hi5⟩ := hc
    obtain ⟨n, rfl⟩ := Int.eq_ofNat_of_zero_le (show 0 ≤ i by omega)
    have h1 : 1 ≤ n := by omega
    have h5 : n ≤ 5 := by omega
    have Hy : Hid (smO str.toList (n : Int) = lsK (smB n str.toList) (2 ^ (pr n).length)) := smO_yes (by rw [← hb]; exact hbt) h1 h5
    have hpl := (pr_len_t n (by omega)).2
    have hpe := (pr_len_t n (by omega)).1
    have HE := Lib.hid (pr_new n)
    have HZ := Lib.hid (zero_vg h1 (show n ≤ 7 by omega))
    have Hno : Hid (smO str.toList (n : Int) = none → ∀ e w', e = .returned (.tuple #[.agg #[.int .i64 0, .slice none 0 0], .bool false]) → Below w.heap.size w w' → smQ str.toList (n : Int) w e w') := fun h e w' h2 h3 => smQ_no h h2 h3
    have Hyes : Hid (∀ b, smO str.toList (n : Int) = some b → ∀ e w' A c, e = .returned (.tuple #[.agg #[.int .i64 (n : Int), .slice A n c], .bool true]) → Own w' w.heap.size w'.heap.size 3 1 A n c (fun j => .int .i64 (wbR (fun _ => 0) (pr n) b (pr n).length j : Nat)) → Below w.heap.size w w' → smQ str.toList (n : Int) w e w') := fun b h e w' A c h2 h3 h4 => smQ_yes h h2 h3 h4
    have KB : Hid (∀ k, smB n str.toList k = !isV (wbR (fun _ => 0) (pr n) k (pr n).length) n str.toList) := fun _ => rfl
    have Hpa : Hid (∀ v u, v < n → v + 1 ≤ u → u < n → (pr n).getD (prTo n v u).length (0, 0) = (v, u) ∧ (prTo n v u).length < (pr n).length) := fun v u h1 h2 h3 => pr_at h1 h2 h3
    have Hps : Hid (∀ v u, v + 1 ≤ u → (prTo n v (u + 1)).length = (prTo n v u).length + 1) := fun v u h => by rw [prTo_step n v u h, List.length_append]; rfl
    have Hpr : Hid (∀ v, (prTo n (v + 1) (v + 1 + 1)).length = (prTo n v n).length) := fun v => by rw [prTo_row]
    have Hp0 : Hid ((prTo n 0 1).length = 0) := by show _ = _; rw [prTo_zero]; rfl
    have Hpn : Hid ((prTo n n (n + 1)).length = (pr n).length) := by show _ = _; rw [prTo_end n _ (Nat.le_refl _)]
    subst hbt
    obtain ⟨E, hE⟩ : ∃ E, E = pr n := ⟨_, rfl⟩
    rw [← hE] at Hy hpl hpe HE Hyes KB Hpa Hpn
    have Hb1 : Hid (∀ k v u, v < n → v + 1 ≤ u → u < n → aeX (n : Int) n (fun j => ((wbR (fun _ => 0) E k (prTo n v u).length j : Nat) : Int)) v u = fun j => ((addN (wbR (fun _ => 0) E k (prTo n v u).length) v u j : Nat) : Int)) := fun k v u h1 h2 h3 => by
      obtain ⟨e1, e2⟩ := Hpa.out v u h1 h2 h3
      have hbit := wbR_bit (b := k) HE.out e2 _ (Nat.le_refl _)
      rw [e1] at hbit
      exact ae_new (wbR_vg HZ.out HE.out _ (by omega)) h1 h3 (by omega) hbit
    have Hs1 : Hid (∀ k v u, v < n → v + 1 ≤ u → u < n → wbR (fun _ => 0) E k (prTo n v (u + 1)).length = if k.testBit (prTo n v u).length = true then addN (wbR (fun _ => 0) E k (prTo n v u).length) v u else wbR (fun _ => 0) E k (prTo n v u).length) := fun k v u h1 h2 h3 => by
      obtain ⟨e1, _⟩ := Hpa.out v u h1 h2 h3
      rw [Hps.out v u h2, wbR, e1]
    have Hle : Hid (∀ v u, v < n → v + 1 ≤ u → u < n → (prTo n v u).length < 10) := fun v u h1 h2 h3 => by have := (Hpa.out v u h1 h2 h3).2; omega
    have ps := pow_shl10 E.length hpl
    have h2l := Nat.pow_le_pow_right (n := 2) (by omega) hpl
    obtain ⟨F, hF⟩ : ∃ F, F = 2 ^ E.length := ⟨_, rfl⟩
    have pF : IntKind.i64.wrap ((2 : Int) ^ E.length) = (F : Int) := by rw [ps, hF]; simp
    rw [← hF] at Hy h2l
    have hF10 : F ≤ 1024 := h2l
    have hm : n * (n - 1) ≤ 20 := by
      rcases (by omega : n = 1 ∨ n = 2 ∨ n = 3 ∨ n = 4 ∨ n = 5) with rfl | rfl | rfl | rfl | rfl <;> decide
    have hmi : (n : Int) * ((n - 1 : Nat) : Int) = ((n * (n - 1) : Nat) : Int) := by simp
    obtain ⟨M, hM⟩ : ∃ M, M = n * (n - 1) := ⟨_, rfl⟩
    rw [← hM] at hm hmi hpe
    have hmj : (n : Int) * ((n : Int) - 1) = (M : Int) := by rw [← hmi]; congr 1; omega
    have S2 : Hid (IntKind.i64.wrap ((n : Int) * ((n : Int) - 1)) = (M : Int)) := by show _ = _; rw [hmj, Go.IntWalk.i64_in _ (by omega)]
    have S3 : Hid (wrap64 ((n : Int) * ((n : Int) - 1)) = (M : Int)) := by show _ = _; rw [hmj, Go.IntWalk.wrap64_in _ (by omega)]
    have D4 : Hid ((M : Int) / 2 = (E.length : Int)) := by show _ = _; omega
    have PF := Lib.hid pF
    clear pF hmj
    clear hb hE hF ps hM hmi hpe
    go_enter Tryz.func36, Tryz.ntmps36
    go_wp2_with fail
    rw [← HW.out]
    clear HW
    refine (ClassNames_sv W).mono ?_
    rintro e w1 ⟨An, cn1, rfl, hon, hb1⟩
    have KT := Lib.hid (KC.out w1 An cn1 hon)
    have HB1 := Lib.hid (HB.out.keep hb1)
    have HQ1 := Lib.hid (HQ.out.keep hb1)
    clear hb1 KC HB HQ hon
    go_wp2_with fail
    refine KT.out.mono ?_
    rintro e w' ⟨rfl, rfl⟩
    go_wp2_with fail
    refine (l1In_yes (n : Int) 1 5 w1 hi1 hi5).mono ?_
    rintro e w' ⟨rfl, rfl⟩
    have hqw := HQ1.out.lt
    clear KT
    go_wp2
    go_loopw [6] (fun i wr => ∃ k : Nat, k ≤ F ∧ i = .int .i64 k ∧ Hid (∀ j, j < k → smB n str.toList j = false) ∧ Hid (From w wr) ∧ Hid (GC wr w.heap.size 0 none 0 0)) (fun i _ => F - (intOf i).toNat)
    case atStart => exact ⟨0, Nat.zero_le _, rfl, (fun j hj => absurd hj (by omega)), HB1, HQ1⟩
    case round =>
      clear HB1 HQ1
      obtain ⟨k, hk, rfl, hall, HB, HQ⟩ := hrel
      by_cases hkf : k < F
      · have i1 : (k : Int) < (F : Int) := by omega
        have Hout : Hid (smB n str.toList k = true → smO str.toList (n : Int) = some k) := fun h => Hy.out.trans (lsK_yes hkf h hall.out)
        have Hnx : Hid (smB n str.toList k = false → ∀ j, j < k + 1 → smB n str.toList j = false) := fun h j hj => by
          by_cases hjk : j < k
          · exact hall.out j hjk
          · obtain rfl : j = k := by omega
            exact h
        have Hyk := Lib.hid (Hyes.out k)
        obtain ⟨W3, hmk, hO3, hb3⟩ := made_own wr n (by omega)
        obtain ⟨g3, eg3, hg3⟩ : ∃ g3, (some ⟨wr.heap.size, 0, none⟩ : Option Addr) = some ⟨g3, 0, none⟩ ∧ g3 < W3.heap.size := by
          obtain ⟨g, e, _, _, h, _⟩ := hO3.at_ (by omega)
          exact ⟨g, e, h⟩
        simp only [Option.some.injEq, Addr.mk.injEq, and_true] at eg3
        subst eg3
        have HB3 := Lib.hid (HB.out.keep hb3)
        have HQ3 := Lib.hid (HQ.out.keep hb3)
        obtain ⟨W4, hW4⟩ : ∃ W4 : World, W4 = W3.alloc (Obj.cells #[Value.int IntKind.i64 n, Value.slice (some ⟨wr.heap.size, 0, none⟩) n n] 30) := ⟨_, rfl⟩
        have hb4 : Below W3.heap.size W3 W4 := by rw [hW4]; exact (Below.refl _ _).alloc (Nat.le_refl _) _
        have hwr := HB.out.below.size
        have hqr := HQ.out.lt
        have HS4 : Hid (SmW (w.heap.size + 1) W4 W3.heap.size n (wbR (fun _ => 0) E k 0)) := by
          rw [hW4]
          exact ⟨_, _, wr.heap.size, wr.heap.size + 1, GC.new _ _ _ _ _, (hO3.alloc _).congr fun _ _ => rfl, .inl (by omega), by omega, by simp; omega⟩
        have HB4 := Lib.hid (HB3.out.keep hb4)
        have HQ4 := Lib.hid (HQ3.out.keep hb4)
        have HW4 := Lib.hid hW4
        have hq7 : w.heap.size + 1 ≤ W3.heap.size := by omega
        have Hb0 : Hid (∀ v u, v < n → v + 1 ≤ u → u < n → aeX (n : Int) n (fun j => ((wbR (fun _ => 0) E k (prTo n v u).length j : Nat) : Int)) v u = fun j => ((addN (wbR (fun _ => 0) E k (prTo n v u).length) v u j : Nat) : Int)) := fun v u => Hb1.out k v u
        have Hst : Hid (∀ v u, v < n → v + 1 ≤ u → u < n → wbR (fun _ => 0) E k (prTo n v (u + 1)).length = if k.testBit (prTo n v u).length = true then addN (wbR (fun _ => 0) E k (prTo n v u).length) v u else wbR (fun _ => 0) E k (prTo n v u).length) := fun v u => Hs1.out k v u
        have s2 := S2.out
        have s3 := S3.out
        have d4 := D4.out
        have pF := PF.out
        clear hW4 hb4 hO3 hb3 HB3 HQ3 HB HQ hg3
        go_wp2
        clear s2 s3 d4 pF
        rw [← HW4.out]
        clear HW4 hmk
        go_loopw [8, 9] (fun ii vv wz => ∃ v : Nat, v ≤ n ∧ vv = .int .i64 v ∧ ii = .int .i64 ((prTo n v (v + 1)).length : Nat) ∧ Hid (SmW (w.heap.size + 1) wz W3.heap.size n (wbR (fun _ => 0) E k (prTo n v (v + 1)).length)) ∧ Hid (From w wz) ∧ Hid (GC wz w.heap.size 0 none 0 0)) (fun _ vv _ => n - (intOf vv).toNat)
        case atStart => exact ⟨0, Nat.zero_le _, rfl, by rw [Hp0.out]; rfl, by rw [Hp0.out]; exact HS4, HB4, HQ4⟩
        case round =>
          clear HS4 HB4 HQ4
          obtain ⟨v, hv, rfl, rfl, HS, HB, HQ⟩ := hrel
          by_cases hvn : v < n
          · have i2 : (v : Int) < (n : Int) := by omega
            have HS0 := HS
            have HB0 := HB
            have HQ0 := HQ
            clear HS HB HQ
            go_wp2
            go_loopw [8, 10] (fun ii uu wz => ∃ u : Nat, v + 1 ≤ u ∧ u ≤ n ∧ uu = .int .i64 u ∧ ii = .int .i64 ((prTo n v u).length : Nat) ∧ Hid (SmW (w.heap.size + 1) wz W3.heap.size n (wbR (fun _ => 0) E k (prTo n v u).length)) ∧ Hid (From w wz) ∧ Hid (GC wz w.heap.size 0 none 0 0)) (fun _ uu _ => n - (intOf uu).toNat)
            case atStart => exact ⟨v + 1, Nat.le_refl _, hvn, by go_num, rfl, HS0, HB0, HQ0⟩
            case round =>
              clear HS0 HB0 HQ0
              obtain ⟨u, hvu, hun, rfl, rfl, HS, HB, HQ⟩ := hrel
              by_cases hul : u < n
              · have i3 : (u : Int) < (n : Int) := by omega
                have hst := Hst.out v u hvn hvu hul
                have hae := Hb0.out v u hvn hvu hul
                have hps := Hps.out v u hvu
                have hle := Hle.out v u hvn hvu hul
                have Hn2 : Hid ((prTo n v (u + 1)).length = (prTo n v u).length + 1) := hps
                obtain ⟨j, hj⟩ : ∃ j, j = (prTo n v u).length := ⟨_, rfl⟩
                rw [← hj] at hst hae hle HS Hn2 ⊢
                obtain ⟨R, hR⟩ : ∃ R, R = wbR (fun _ => 0) E k j := ⟨_, rfl⟩
                rw [← hR] at hst hae HS
                obtain ⟨A', c', lo, hi, hC, hO, ho1, ho2, ho3⟩ := HS.out.ex
                have HC := Lib.hid hC
                have HO := Lib.hid hO
                have HR2 := Lib.hid hst
                have Hae := Lib.hid hae
                have c0 := hC.c0
                have c1 := hC.c1
                have E1 := and_one_i64 (k : Int) j (by omega) (by omega)
                rw [Int.toNat_natCast] at E1
                have i4 : (j : Int) < 64 := by omega
                clear hst hae hps hC hO HS hj hR
                cases hbt : k.testBit j
                · rw [hbt] at E1
                  have Hr : Hid (wbR (fun _ => 0) E k (prTo n v (u + 1)).length = R) := by show _ = _; rw [HR2.out, hbt]; rfl
                  have HS2 : Hid (SmW (w.heap.size + 1) wr W3.heap.size n R) := ⟨_, _, _, _, HC.out, HO.out, ho1, ho2, ho3⟩
                  clear hbt HR2 c0 c1
                  go_wp2
                  go_roundw
                  case rel => exact ⟨u + 1, by omega, by omega, by go_num, by rw [Hn2.out]; go_num, by rw [Hr.out]; exact HS2, HB, HQ⟩
                  case measure => (simp [intOf] <;> omega)
                · rw [hbt] at E1
                  have Hr : Hid (wbR (fun _ => 0) E k (prTo n v (u + 1)).length = addN R v u) := by show _ = _; rw [HR2.out, hbt]; rfl
                  have hql := HC.out.lt
                  clear hbt HR2
                  go_wp2_with fail
                  refine (AddEdge_s (n : Int) A' n c' (fun j => ((R j : Nat) : Int)) v u wr hi HO.out.rd ho3 (by omega)).mono ?_
                  rintro e w5 ⟨A5, c5, rfl, hO5, hb5⟩
                  have hO6 : Own w5 (wr.heap.size + 2) w5.heap.size 3 1 A5 n c5 (fun j => .int .i64 (addN R v u j : Nat)) := hO5.congr fun j _ => by rw [Hae.out]
                  have z5 := hb5.size
                  have F5 := fr2 w5 W3.heap.size (.int .i64 (n : Int)) (.slice A5 n c5)
                  have HB5 := Lib.hid (HB.out.keep hb5)
                  have HQ5 := Lib.hid ((HQ.out.keep hb5).keepF F5 (.inl (by omega)))
                  have HB6 : Hid (From w ((w5.setCell ⟨W3.heap.size, 0, none⟩ (.int .i64 (n : Int))).setCell ⟨W3.heap.size, 1, none⟩ (.slice A5 n c5))) := HB5.out.set (by omega) _ _
                  have HC5 := Lib.hid (HC.out.keep hb5)
                  have HS6 : Hid (SmW (w.heap.size + 1) ((w5.setCell ⟨W3.heap.size, 0, none⟩ (.int .i64 (n : Int))).setCell ⟨W3.heap.size, 1, none⟩ (.slice A5 n c5)) W3.heap.size n (addN R v u)) := ⟨A5, c5, wr.heap.size + 2, w5.heap.size, HC5.out.set, hO6.keep F5 (.inr (by omega)), .inr (by omega), by have := HB.out.below.size; omega, F5.size⟩
                  clear c0 c1
                  have c0 := HC5.out.c0
                  have c1 := HC5.out.c1
                  have c2 := HC5.out.f0
                  have c3 := HC5.out.f1
                  clear hO5 hO6 hb5 F5 HB HQ HC HO Hae
                  go_wp2
                  go_roundw
                  case rel => exact ⟨u + 1, by omega, by omega, by go_num, by rw [Hn2.out]; go_num, by rw [Hr.out]; exact HS6, HB6, HQ5⟩
                  case measure => (simp [intOf] <;> omega)
              · obtain rfl : u = n := by omega
                have i3 : (u : Int) ≤ (u : Int) := Int.le_refl _
                have hr := Hpr.out v
                go_wp2
                go_roundw
                case rel => exact ⟨v + 1, by omega, by go_num, by rw [hr], by rw [hr]; exact HS, HB, HQ⟩
                case measure => (simp [intOf] <;> omega)
          · have hvn' : v = n := by omega
            subst hvn'
            rw [Hpn.out] at HS
            obtain ⟨A', c', lo, hi, hC, hO, ho1, ho2, ho3⟩ := HS.out.ex
            have HC := Lib.hid hC
            have HO := Lib.hid hO
            have HG : Hid (GV wr A' v c' (wbR (fun _ => 0) E k E.length)) := ⟨wbR_vg HZ.out HE.out _ (Nat.le_refl _), hO.rd.keep (Below.refl _ _) ho3⟩
            have KI : Hid (Calls Tryz.prog 20 #[.agg #[.int .i64 v, .slice A' v c'], .string str] wr fun e w' => e = .returned (.bool (!smB v str.toList k)) ∧ Below wr.heap.size wr w') := by rw [KB.out, Bool.not_not]; exact IsIn_sv HG.out str
            have c0 := hC.c0
            have c1 := hC.c1
            obtain ⟨t, ht⟩ : ∃ t, t = smB v str.toList k := ⟨_, rfl⟩
            rw [← ht] at Hout Hnx KI
            obtain ⟨R, hR⟩ : ∃ R, R = wbR (fun _ => 0) E k E.length := ⟨_, rfl⟩
            rw [← hR] at Hyk HO
            have i2 : (v : Int) ≤ (v : Int) := Int.le_refl _
            clear hC hO HS ht hR HG
            go_wp2_with fail
            refine KI.out.mono ?_
            rintro e w6 ⟨rfl, hb6⟩
            have HC6 := Lib.hid (HC.out.keep hb6)
            have HO6 : Hid (Own w6 lo hi 3 1 A' v c' (fun j => .int .i64 (R j : Nat))) := HO.out.keepB hb6 ho3
            have hz6 := Nat.le_trans ho3 hb6.size
            have HB6 := Lib.hid (HB.out.keep hb6)
            have HQ6 := Lib.hid (HQ.out.keep hb6)
            clear hb6 KI HC HO HB HQ c0 c1
            cases t
            · have Hn := Lib.hid (Hnx.out rfl)
              rw [show (!false) = true from rfl]
              clear HC6 HO6
              go_wp2
              go_roundw
              case rel => exact ⟨k + 1, by omega, by go_num, Hn, HB6, HQ6⟩
              case measure => (simp [intOf] <;> omega)
            · have Hx := Lib.hid (Hyk.out (Hout.out rfl))
              rw [show (!true) = false from rfl]
              have d0 := HQ6.out.c0
              have d1 := HQ6.out.c1
              have d2 := HQ6.out.f0
              have d3 := HQ6.out.f1
              have u0 := HC6.out.c0
              have u1 := HC6.out.c1
              have F5 := fr2 w6 w.heap.size (.int .i64 (v : Int)) (.slice A' v c')
              have HOE := (HO6.out.keep F5 (.inr (by omega))).mono (by omega : w.heap.size ≤ lo) (Nat.le_trans hz6 F5.size)
              have HBE := (HB6.out.set (q := w.heap.size) (Nat.le_refl _) (.int .i64 (v : Int)) (.slice A' v c')).below
              go_wp2
              exact bodyPost_ret (v := .tuple #[.agg #[.int .i64 (v : Int), .slice A' v c'], .bool true]) (by simp [results, Tryz.results36, go_sem, *]) rfl (Hx.out _ _ A' c' rfl HOE HBE)
      · have Hf : Hid (smO str.toList (n : Int) = none) := Hy.out.trans (lsK_no fun j hj => hall.out j (by omega))
        have Hx := Lib.hid (Hno.out Hf.out)
        have i1 : (F : Int) ≤ (k : Int) := by omega
        have d0 := HQ.out.c0
        have d1 := HQ.out.c1
        have d2 := HQ.out.f0
        have d3 := HQ.out.f1
        have HE2 := (HB.out.set (q := w.heap.size) (Nat.le_refl _) (.int .i64 0) (.slice none 0 0)).below
        have s2 := S2.out
        have s3 := S3.out
        have d4 := D4.out
        have pF := PF.out
        go_wp2
        exact bodyPost_ret (v := .tuple #[.agg #[.int .i64 0, .slice none 0 0], .bool false]) (by simp [results, Tryz.results36, go_sem, *]) rfl (Hx.out _ _ rfl HE2)
  · have Hx : Hid (∀ e w', e = .returned (.tuple #[.agg #[.int .i64 0, .slice none 0 0], .bool false]) → Below w.heap.size w w' → smQ str.toList i w e w') := fun e w' h2 h3 => smQ_no (smO_no (by
      rw [← hb]
      cases b
      · exact .inl rfl
      · refine .inr ?_
        have : ¬ (1 ≤ i ∧ i ≤ 5) := fun h => hc ⟨rfl, h⟩
        omega)) h2 h3
    have Hi : Hid (b = true → i < 1 ∨ 5 < i) := fun h => by
      have : ¬ (1 ≤ i ∧ i ≤ 5) := fun h2 => hc ⟨h, h2⟩
      omega
    clear hc hb
    go_enter Tryz.func36, Tryz.ntmps36
    go_wp2_with fail
    rw [← HW.out]
    clear HW
    refine (ClassNames_sv W).mono ?_
    rintro e w1 ⟨An, cn1, rfl, hon, hb1⟩
    have KT := Lib.hid (KC.out w1 An cn1 hon)
    have HB1 := Lib.hid (HB.out.keep hb1)
    have HQ1 := Lib.hid (HQ.out.keep hb1)
    clear hb1 KC HB HQ hon
    have d0 := HQ1.out.c0
    have d1 := HQ1.out.c1
    have d2 := HQ1.out.f0
    have d3 := HQ1.out.f1
    have HE2 := (HB1.out.set (q := w.heap.size) (Nat.le_refl _) (.int .i64 0) (.slice none 0 0)).below
    go_wp2_with fail
    refine KT.out.mono ?_
    rintro e w' ⟨rfl, rfl⟩
    clear KT
    cases b
    · go_wp2
      exact bodyPost_ret (v := .tuple #[.agg #[.int .i64 0, .slice none 0 0], .bool false]) (by simp [results, Tryz.results36, go_sem, *]) rfl (Hx.out _ _ rfl HE2)
    · go_wp2_with fail
      refine (l1In_no i 1 5 w1 (Hi.out (by first | rfl | trivial))).mono ?_
      rintro e w' ⟨rfl, rfl⟩
      go_wp2
      exact bodyPost_ret (v := .tuple #[.agg #[.int .i64 0, .slice none 0 0], .bool false]) (by simp [results, Tryz.results36, go_sem, *]) rfl (Hx.out _ _ rfl HE2)
end Go.Proofs.YtmkahbephidmbaaGreat

/-
  The contracts of SmallestOutside in the words of the law.
-/
namespace Go.Proofs.YtmkahbephidmbaaGreat
open Go.RowKit

noncomputable def smZ (s : List UInt8) (i : Int) : Int := (smN s i : Nat)
theorem smN_le (s : List UInt8) (i : Int) : smN s i ≤ 5 := by
  unfold smN
  split
  · omega
  · rename_i b h
    unfold smO at h
    split at h
    · rename_i h2
      omega
    · cases h
section
variable (t1 : ByteArray) (i2 : Int) (w : World)
theorem SmallestOutside_sL :
    Calls Tryz.prog 36 #[.string t1, .int .i64 i2] w fun e w' => ∃ A' c', e = .returned (.tuple #[.agg #[.int .i64 (smZ t1.toList i2), .slice A' (smN t1.toList i2) c'], .bool (smO t1.toList i2).isSome]) ∧ Own w' w.heap.size w'.heap.size 3 1 A' (smN t1.toList i2) c' (fun j => .int .i64 (smX t1.toList i2 j)) ∧ Below w.heap.size w w' :=
  SmallestOutside_s t1 i2 w
theorem SmallestOutside_iL :
    Calls Tryz.prog 37 #[.string t1, .int .i64 i2] w fun e w' => ∃ A' c', e = .returned (.tuple #[.agg #[.int .i64 (smZ t1.toList i2), .slice A' (smN t1.toList i2) c'], .bool (smO t1.toList i2).isSome]) ∧ Own w' w.heap.size w'.heap.size 3 1 A' (smN t1.toList i2) c' (fun j => .int .i64 (smX t1.toList i2 j)) ∧ Below w.heap.size w w' :=
  SmallestOutside_i t1 i2 w
end
end Go.Proofs.YtmkahbephidmbaaGreat
