/-
  Contracts: the graph of intervals; are intervals a model of a graph? The reference's.
-/
import Derived.Test.YtncjfgebolikoaaQsGivJ
import Derived.Test.YtncjfgebolikoaaQsModS
namespace Go.Proofs.Ytncjfgebolikoaa
open Go.RowKit

theorem grS_vg {p : Nat → Nat → Bool} {n b a : Nat} (h1 : 1 ≤ n) (h7 : n ≤ 7) : VG n (grS p n b a) := by
  refine ⟨h1, h7, fun v _ => grS_lt, fun v hv => ?_, fun v u hv hu => ?_⟩
  · unfold grS
    rw [bmK_bit]
    simp [stB]
  · unfold grS
    rw [bmK_bit, bmK_bit, decide_eq_true hu, decide_eq_true hv]
    unfold stB
    rw [Bool.or_comm]
theorem ae_gr {p : Nat → Nat → Bool} {n b a : Nat} (h7 : n ≤ 7) (hab : a < b) (hb : b < n) (hp : p a b = true) : aeX (n : Int) n (fun j => ((grS p n b a j : Nat) : Int)) b a = fun j => ((grS p n b (a + 1) j : Nat) : Int) := by
  have hok : okB (n : Int) n (fun j => ((grS p n b a j : Nat) : Int)) = true := okB_yes ⟨_, rfl, grS_vg (by omega) h7, fun _ _ => rfl⟩
  have hbit : ((((grS p n b a (b : Int).toNat : Nat) : Int)).toNat).testBit ((a : Int).toNat) = false := by
    simp only [Int.toNat_natCast]
    unfold grS
    rw [bmK_bit]
    simp [stB, show ¬ b < a by omega]
  have hae : aeB (n : Int) n (fun j => ((grS p n b a j : Nat) : Int)) b a = true := by
    unfold aeB
    rw [hok, hbit, decide_eq_true (by omega)]; rfl
  unfold aeX
  rw [if_pos hae]
  funext j
  rw [grS_yes hp hab hb]
  simp only [Int.toNat_natCast, addN]
  congr 1
  by_cases h : j = b
  · subst h
    rw [if_pos rfl, if_neg (by omega), if_pos rfl]
  · rw [if_neg h]
    by_cases h2 : j = a
    · subst h2; rw [if_pos rfl, if_pos rfl]
    · rw [if_neg h2, if_neg h2, if_neg h]
theorem IB.keepF {w w' : World} {q lo hi : Nat} {Al : Option Addr} {n cl : Nat} {Ar : Option Addr} {k cr : Nat} (h : IB w q Al n cl Ar k cr) (hf : Fr lo hi w w') (hq : q < lo ∨ hi ≤ q) : IB w' q Al n cl Ar k cr := ⟨frC_ hf h.c0 h.lt hq, frC_ hf h.c1 h.lt hq⟩
/-- A graph under way: its box q, its rows beside the box. -/
structure GW (w0 wr : World) (q : Nat) (n : Nat) (r : Nat → Nat) : Prop where
  ex : ∃ A c lo hi, GC wr q n A n c ∧ Own wr lo hi 3 1 A n c (fun j => .int .i64 (r j : Nat)) ∧ (hi ≤ q ∨ q + 1 ≤ lo) ∧ w0.heap.size + 2 ≤ lo ∧ hi ≤ wr.heap.size
theorem GW.congr {w0 wr : World} {q n : Nat} {r s : Nat → Nat} (h : GW w0 wr q n r) (e : ∀ j, r j = s j) : GW w0 wr q n s := by
  obtain rfl : r = s := funext e
  exact h
theorem GW.drewN {w0 wr : World} {q n : Nat} {r : Nat → Nat} (h : GW w0 wr q n r) (k : Nat) : GW w0 (wr.drewN k) q n r := by
  obtain ⟨A, c, lo, hi, h1, h2, h3, h4, h5⟩ := h.ex
  exact ⟨A, c, lo, hi, ⟨h1.c0, h1.c1, h1.f0, h1.f1⟩, h2.drewN k, h3, h4, h5⟩

set_option maxRecDepth 100000 in
set_option maxHeartbeats 3200000 in
theorem GraphOfIntervals_s (Al : Option Addr) (n cl : Nat) (L : List Int) (Ar : Option Addr) (k cr : Nat) (R : List Int) (w : World) (hl : LI w Al n cl L) (hr : LI w Ar k cr R) (hnb : n ≤ 1048576) :
    Calls Try.prog 55 #[.agg #[.slice Al n cl, .slice Ar k cr]] w fun e w' => ∃ sz' A' m' c', e = .returned (.tuple #[.agg #[.int .i64 sz', .slice A' m' c'], .bool (imB L R)]) ∧ (imB L R = true → sz' = (n : Int) ∧ m' = n ∧ Own w' w.heap.size w'.heap.size 3 1 A' n c' (fun j => .int .i64 (ivR L R j : Nat))) ∧ Below w.heap.size w w' := by
  obtain ⟨W, hW⟩ : ∃ W : World, W = ((w.alloc (Obj.cells #[Value.slice Al n cl, Value.slice Ar k cr] 54)).alloc (Obj.cells #[Value.int IntKind.i64 0, Value.slice none 0 0] 26)) := ⟨_, rfl⟩
  have HB : Hid (From w W) := by rw [hW]; exact (From.alloc _ _).alloc_ _
  have HL := Lib.hid hl
  have HR := Lib.hid hr
  have HI : Hid (IB W w.heap.size Al n cl Ar k cr) := by rw [hW]; constructor <;> simp [go_sem]
  have HD : Hid (GC W (w.heap.size + 1) 0 none 0 0) := by rw [hW]; constructor <;> simp [go_sem]
  have HW := Lib.hid hW
  have HN := Lib.hid hl.len
  have HK := Lib.hid hr.len
  clear hW hl hr
  have HLw := Lib.hid (HL.out.keep HB.out.below)
  have HRw := Lib.hid (HR.out.keep HB.out.below)
  go_enter Try.func55, Try.ntmps55
  have e0 := HI.out.c0
  have e1 := HI.out.c1
  have d0 := HD.out.c0
  have d1 := HD.out.c1
  have d2 := HD.out.f0
  have d3 := HD.out.f1
  go_wp2_with fail
  rw [← HW.out]
  refine (IsModel_s Al n cl L Ar k cr R W HLw.out HRw.out hnb).mono ?_
  rintro e w1 ⟨rfl, hb1⟩
  clear HW
  clear e0 e1 d0 d1 d2 d3
  replace HB := Lib.hid (HB.out.keep hb1)
  replace HI := Lib.hid (HI.out.keep hb1)
  replace HD := Lib.hid (HD.out.keep hb1)
  clear hb1
  have e0 := HI.out.c0
  have e1 := HI.out.c1
  have d0 := HD.out.c0
  have d1 := HD.out.c1
  have d2 := HD.out.f0
  have d3 := HD.out.f1
  clear HLw HRw
  cases ho : imB L R
  · have Ho := Lib.hid ho
    clear ho
    go_wp2
    have HE := (HB.out.set (q := w.heap.size + 1) (by omega) (.int .i64 0) (.slice none 0 0)).below
    exact bodyPost_ret (v := .tuple #[.agg #[.int .i64 0, .slice none 0 0], .bool false]) (by simp [results, Try.results55, go_sem, *]) rfl ⟨0, none, 0, 0, by rw [Ho.out], (fun h => by rw [Ho.out] at h; cases h), HE⟩
  · obtain ⟨h7, hk, _⟩ := im_parts ho
    have Ho := Lib.hid ho
    have hkn : k = n := by rw [HN.out, HK.out, hk]
    subst hkn
    have hn1 : 1 ≤ k := by rw [HN.out]; exact h7.1
    have hn7 : k ≤ 7 := by rw [HN.out]; exact h7.2
    have Hrow : Hid (∀ j, grS (jnB L R) k k 0 j = ivR L R j) := fun j => by unfold ivR; rw [← HN.out]
    obtain ⟨p, hp⟩ : ∃ p, p = jnB L R := ⟨_, rfl⟩
    rw [← hp] at Hrow
    have Hp := Lib.hid hp
    have hz1 : w.heap.size + 1 < w1.heap.size := HD.out.lt
    obtain ⟨W2, hmk, hO2, hb2⟩ := made_own w1 k (by omega)
    obtain ⟨W3, hW3⟩ : ∃ W3 : World, W3 = (W2.alloc (Obj.cells #[Value.int IntKind.i64 k, Value.slice (some ⟨w1.heap.size, 0, none⟩) k k] 26)) := ⟨_, rfl⟩
    have hb3 : Below W2.heap.size W2 W3 := by rw [hW3]; exact (Below.refl _ _).alloc (Nat.le_refl _) _
    have hq3 : W2.heap.size < W3.heap.size := by rw [hW3]; simp
    have hz2 : w1.heap.size + 1 ≤ W2.heap.size := by
      rcases hO2 with ⟨h, _⟩ | ⟨g, cur, h1, _, h3, h4, _⟩
      · cases h
      · have := (Array.getElem?_eq_some_iff.1 h4).1
        simp only [Option.some.injEq, Addr.mk.injEq, and_true] at h1
        omega
    have HB3 : Hid (From w W3) := (HB.out.keep hb2).keep hb3
    have HI3 : Hid (IB W3 w.heap.size Al k cl Ar k cr) := (HI.out.keep hb2).keep hb3
    have HD3 : Hid (GC W3 (w.heap.size + 1) 0 none 0 0) := (HD.out.keep hb2).keep hb3
    have HG3 : Hid (GW w W3 W2.heap.size k (grS p k 0 0)) := ⟨⟨some ⟨w1.heap.size, 0, none⟩, k, w1.heap.size, w1.heap.size + 1, (by rw [hW3]; exact GC.new _ _ _ _ _), (hO2.keepB hb3 hz2).congr (fun j _ => by rw [grS_zero]; rfl), .inl hz2, by omega, by omega⟩⟩
    have HW3 := Lib.hid hW3
    have hqz : w.heap.size + 1 < W2.heap.size := by omega
    clear ho h7 hk hp hW3 hb3 hO2 hb2
    go_wp2_with fail
    rw [← HW3.out]
    clear HW3 hmk HB HI HD e0 e1 d0 d1 d2 d3
    go_loopw [6] (fun iv wr => ∃ b : Nat, b ≤ k ∧ iv = .int .i64 b ∧ Hid (GW w wr W2.heap.size k (grS p k b 0)) ∧ Hid (IB wr w.heap.size Al k cl Ar k cr) ∧ Hid (GC wr (w.heap.size + 1) 0 none 0 0) ∧ Hid (From w wr)) (fun iv _ => k - (intOf iv).toNat)
    case atStart => exact ⟨0, Nat.zero_le _, rfl, HG3, HI3, HD3, HB3⟩
    case round =>
      clear HG3 HI3 HD3 HB3
      obtain ⟨b, hb, rfl, HG, HI, HD, HB⟩ := hrel
      by_cases hbn : b < k
      · have i1 : (b : Int) < (k : Int) := by omega
        go_wp2
        go_loopw [7] (fun iv wr => ∃ a : Nat, a ≤ b ∧ iv = .int .i64 a ∧ Hid (GW w wr W2.heap.size k (grS p k b a)) ∧ Hid (IB wr w.heap.size Al k cl Ar k cr) ∧ Hid (GC wr (w.heap.size + 1) 0 none 0 0) ∧ Hid (From w wr)) (fun iv _ => b - (intOf iv).toNat)
        case atStart => exact ⟨0, Nat.zero_le _, rfl, HG, HI, HD, HB⟩
        case round =>
          clear HG HI HD HB
          obtain ⟨a, ha, rfl, HG, HI, HD, HB⟩ := hrel
          by_cases hab : a < b
          · have i2 : (a : Int) < (b : Int) := by omega
            have i3 : (a : Int) < (k : Int) := by omega
            have HLr := Lib.hid (HL.out.keep HB.out.below)
            have HRr := Lib.hid (HR.out.keep HB.out.below)
            obtain ⟨bl, ol, rfl⟩ := HLr.out.addr (by omega)
            obtain ⟨br, or_, rfl⟩ := HRr.out.addr (by omega)
            have p0 := HLr.out.at (show a < k by omega)
            have p1 := HRr.out.at hbn
            have p2 := HLr.out.at hbn
            have p3 := HRr.out.at (show a < k by omega)
            have e0 := HI.out.c0
            have e1 := HI.out.c1
            have HJ : p a b = (decide (L.getD a 0 ≤ R.getD b 0) && decide (L.getD b 0 ≤ R.getD a 0)) := by rw [Hp.out]; rfl
            obtain ⟨la, hla⟩ : ∃ t, t = L.getD a 0 := ⟨_, rfl⟩
            obtain ⟨lb, hlb⟩ : ∃ t, t = L.getD b 0 := ⟨_, rfl⟩
            obtain ⟨ra, hra⟩ : ∃ t, t = R.getD a 0 := ⟨_, rfl⟩
            obtain ⟨rb, hrb⟩ : ∃ t, t = R.getD b 0 := ⟨_, rfl⟩
            rw [← hla] at p0 HJ
            rw [← hlb] at p2 HJ
            rw [← hra] at p3 HJ
            rw [← hrb] at p1 HJ
            clear hla hlb hra hrb HLr HRr
            cases hp : p a b
            · rw [hp] at HJ
              have HG' : Hid (GW w wr W2.heap.size k (grS p k b (a + 1))) := HG.out.congr fun j => (grS_no hp).symm
              clear hp HG
              by_cases h2 : lb ≤ ra
              · have h1 : ¬ la ≤ rb := fun h1 => by rw [decide_eq_true h1, decide_eq_true h2] at HJ; cases HJ
                have d1 : decide (lb ≤ ra) = true := decide_eq_true h2
                have d2 : decide (la ≤ rb) = false := decide_eq_false h1
                have j2 : rb < la := by omega
                clear HJ h1
                go_wp2
                go_quiet (fail)
                go_wp2
                go_roundw
                case rel => exact ⟨a + 1, by omega, by go_num, HG'.out.drewN _, ⟨e0, e1⟩, ⟨HD.out.c0, HD.out.c1, HD.out.f0, HD.out.f1⟩, HB.out.drewN _⟩
                case measure => (simp [intOf] <;> omega)
              · have d1 : decide (lb ≤ ra) = false := decide_eq_false h2
                have j2 : ra < lb := by omega
                clear HJ h2
                go_wp2
                go_quiet (fail)
                go_wp2
                go_roundw
                case rel => exact ⟨a + 1, by omega, by go_num, HG'.out.drewN _, ⟨e0, e1⟩, ⟨HD.out.c0, HD.out.c1, HD.out.f0, HD.out.f1⟩, HB.out.drewN _⟩
                case measure => (simp [intOf] <;> omega)
            · rw [hp] at HJ
              have h1 : la ≤ rb := by
                refine Classical.byContradiction fun h => ?_
                rw [decide_eq_false h] at HJ; cases HJ
              have h2 : lb ≤ ra := by
                refine Classical.byContradiction fun h => ?_
                rw [decide_eq_false h, Bool.and_false] at HJ; cases HJ
              have d1 : decide (lb ≤ ra) = true := decide_eq_true h2
              have d2 : decide (la ≤ rb) = true := decide_eq_true h1
              obtain ⟨A, c, lo, hi, hC, hO, ho1, ho2, ho3⟩ := HG.out.ex
              have HC := Lib.hid hC
              have HO := Lib.hid hO
              have Hae := Lib.hid (ae_gr hn7 hab hbn hp)
              have c0 := hC.c0
              have c1 := hC.c1
              clear HJ hp HG hC hO
              go_wp2
              go_quiet (fail)
              obtain ⟨W4, hW4⟩ : ∃ W4 : World, W4 = wr.drewN nq := ⟨_, rfl⟩
              rw [← hW4]
              have HB4 : Hid (From w W4) := by rw [hW4]; exact HB.out.drewN _
              have HI4 : Hid (IB W4 w.heap.size (some ⟨bl, ol, none⟩) k cl (some ⟨br, or_, none⟩) k cr) := by rw [hW4]; exact ⟨e0, e1⟩
              have HD4 : Hid (GC W4 (w.heap.size + 1) 0 none 0 0) := by rw [hW4]; exact ⟨HD.out.c0, HD.out.c1, HD.out.f0, HD.out.f1⟩
              have HC4 : Hid (GC W4 W2.heap.size k A k c) := by rw [hW4]; exact ⟨HC.out.c0, HC.out.c1, HC.out.f0, HC.out.f1⟩
              have HO4 : Hid (Own W4 lo hi 3 1 A k c (fun j => .int .i64 (grS p k b a j : Nat))) := by rw [hW4]; exact HO.out.drewN _
              have ho4 : hi ≤ W4.heap.size := by rw [hW4]; exact ho3
              clear hW4 HB HI HD HC HO e0 e1 p0 p1 p2 p3 d1 d2 h1 h2 c0 c1
              have c0 := HC4.out.c0
              have c1 := HC4.out.c1
              have hql := HC4.out.lt
              go_wp2_with fail
              refine (AddEdge_s (k : Int) A k c (fun j => ((grS p k b a j : Nat) : Int)) b a W4 hi HO4.out.rd ho4 (by omega)).mono ?_
              rintro e w5 ⟨A5, c5, rfl, hO5, hb5⟩
              have hO6 : Own w5 (W4.heap.size + 2) w5.heap.size 3 1 A5 k c5 (fun j => .int .i64 (grS p k b (a + 1) j : Nat)) := hO5.congr fun j _ => by rw [Hae.out]
              have z5 := hb5.size
              have F5 := fr2 w5 W2.heap.size (.int .i64 (k : Int)) (.slice A5 k c5)
              have HB5 := Lib.hid (HB4.out.keep hb5)
              have HI5 := Lib.hid ((HI4.out.keep hb5).keepF F5 (.inl (by omega)))
              have HD5 := Lib.hid ((HD4.out.keep hb5).keepF F5 (.inl (by omega)))
              have HB6 : Hid (From w ((w5.setCell ⟨W2.heap.size, 0, none⟩ (.int .i64 (k : Int))).setCell ⟨W2.heap.size, 1, none⟩ (.slice A5 k c5))) := HB5.out.set (by omega) _ _
              have HC5 := Lib.hid (HC4.out.keep hb5)
              have HG5 : Hid (GW w ((w5.setCell ⟨W2.heap.size, 0, none⟩ (.int .i64 (k : Int))).setCell ⟨W2.heap.size, 1, none⟩ (.slice A5 k c5)) W2.heap.size k (grS p k b (a + 1))) := ⟨⟨A5, c5, W4.heap.size + 2, w5.heap.size, HC5.out.set, hO6.keep F5 (.inr (by omega)), .inr (by omega), by have := HB4.out.below.size; omega, F5.size⟩⟩
              clear c0 c1
              have c0 := HC5.out.c0
              have c1 := HC5.out.c1
              have c2 := HC5.out.f0
              have c3 := HC5.out.f1
              have hql5 := HC5.out.lt
              clear hO5 hO6 hb5 F5 HB4 HI4 HD4 HC4 HO4 Hae
              go_wp2
              go_roundw
              case rel => exact ⟨a + 1, by omega, by go_num, HG5, HI5, HD5, HB6⟩
              case measure => (simp [intOf] <;> omega)
          · have HG' : Hid (GW w wr W2.heap.size k (grS p k (b + 1) 0)) := HG.out.congr fun j => by
              have e : a = b := by omega
              rw [e, grS_next]
            have i2 : (b : Int) ≤ (a : Int) := by omega
            go_wp2
            go_roundw
            case rel => exact ⟨b + 1, by omega, by go_num, HG', HI, HD, HB⟩
            case measure => (simp [intOf] <;> omega)
      · obtain rfl : k = b := by omega
        obtain ⟨A, c, lo, hi, hC, hO, ho1, ho2, ho3⟩ := HG.out.ex
        have e0 := hC.c0
        have e1 := hC.c1
        have d0 := HD.out.c0
        have d1 := HD.out.c1
        have d2 := HD.out.f0
        have d3 := HD.out.f1
        have hgl := hC.lt
        have hO' : Own wr lo hi 3 1 A k c (fun j => .int .i64 (ivR L R j : Nat)) := hO.congr (fun j _ => by rw [Hrow.out])
        have HO := Lib.hid hO'
        have F := fr2 wr (w.heap.size + 1) (.int .i64 (k : Int)) (.slice A k c)
        have HE := (HB.out.set (q := w.heap.size + 1) (by omega) (.int .i64 (k : Int)) (.slice A k c)).below
        have HOE := Lib.hid ((hO'.keep F (.inr ho2)).mono (show w.heap.size ≤ lo by omega) (Nat.le_trans ho3 F.size))
        clear hC hO hO' HG
        go_wp2
        exact bodyPost_ret (v := .tuple #[.agg #[.int .i64 (k : Int), .slice A k c], .bool true]) (by simp [results, Try.results55, go_sem, *]) rfl ⟨k, A, k, c, by rw [Ho.out], (fun _ => ⟨rfl, rfl, HOE.out⟩), HE⟩

end Go.Proofs.Ytncjfgebolikoaa
