/-
  Contract: the reference's FormatEdits.
-/
import Derived.Test.YtppkokgiojcgbaaGreatDoorQyShlI
import Derived.Test.YtppkokgiojcgbaaGreatDoorQySet2I
import Derived.Laws.Closers25b
namespace Go.Proofs.YtppkokgiojcgbaaGreatDoor
open Go.RowKit

set_option maxRecDepth 100000 in
set_option maxHeartbeats 3200000 in
theorem FormatEdits_s (A : Option Addr) (n c : Nat) (a : Nat → Bool) (v u : Nat → Int) (w : World) (h : RE w A n c a v u) (hn : n ≤ 1048577) :
    Calls Tryz.prog 38 #[.slice A n c] w fun e w' => e = .returned (.string (fmO n a v u)) ∧ Below w.heap.size w w' := by
  have HL := Lib.hid h
  clear h
  go_enter Tryz.func38, Tryz.ntmps38
  go_wp2
  go_loopw [3, 4] (fun s i wr => ∃ (k : Nat) (S : ByteArray), k ≤ n ∧ s = .string S ∧ i = .int .i64 k ∧ (k ≠ 0 → n ≤ 12) ∧ Hid (S = fmJ a v u k) ∧ Hid (∀ j, j < k → exB (v j) (u j) = true) ∧ Hid (From w wr)) (fun _ i _ => n - (intOf i).toNat)
  case atStart => exact ⟨0, _, Nat.zero_le _, rfl, rfl, by omega, rfl, (fun j hj => absurd hj (by omega)), From.refl _⟩
  case round =>
    obtain ⟨k, S, hk, rfl, rfl, h12, HS, hall, HB⟩ := hrel
    by_cases hlt : k < n
    · have i1 : (k : Int) < (n : Int) := by omega
      by_cases hm : 12 < n
      · have i2 : (12 : Int) < (n : Int) := by omega
        have Ho : Hid (fmO n a v u = ⟨#[]⟩) := fmO_many hm
        go_wp2
        go_ret
        exact ⟨by rw [Ho.out]; rfl, HB.out.below⟩
      have i2 : (n : Int) ≤ (12 : Int) := by omega
      have hs : S.size ≤ 48 := by
        have := fmJ_size a v u k
        rw [HS.out]; omega
      have HR : Hid (RE wr A n c a v u) := HL.out.keep HB.out.below
      obtain ⟨b, o, rfl, hb, hc⟩ := HR.out.rd.2 (by omega)
      obtain ⟨q0, q1, q2⟩ := hc k hlt
      clear hc HR
      have Hb := Lib.hid hb
      have Hva : Hid (exB (v k) (u k) = (vxB (v k) && vxB (u k))) := rfl
      have Hbad : Hid (exB (v k) (u k) = false → fmO n a v u = ⟨#[]⟩) := fmO_bad hlt
      have Hgo : Hid (exB (v k) (u k) = true → ∀ j, j < k + 1 → exB (v j) (u j) = true) := fun h j hj => by
        by_cases hjk : j < k
        · exact hall.out j hjk
        · obtain rfl : j = k := by omega
          exact h
      obtain ⟨p, hp⟩ : ∃ p, p = exB (v k) (u k) := ⟨_, rfl⟩
      rw [← hp] at Hva Hbad Hgo
      have H1 : Hid (k = 0 → fmJ a v u (k + 1) = S ++ sgn (a k) ++ dvB (v k) ++ dvB (u k)) := fun h => by rw [fmJ_one a v u h, HS.out]
      have H2 : Hid (k ≠ 0 → fmJ a v u (k + 1) = S ++ ⟨#[44]⟩ ++ sgn (a k) ++ dvB (v k) ++ dvB (u k)) := fun h => by rw [fmJ_more a v u h, HS.out]
      obtain ⟨x, hx⟩ : ∃ x, x = a k := ⟨_, rfl⟩
      obtain ⟨y, hy⟩ : ∃ y, y = v k := ⟨_, rfl⟩
      obtain ⟨t, ht⟩ : ∃ t, t = u k := ⟨_, rfl⟩
      rw [← hx] at q0
      rw [← hy] at q1
      rw [← ht] at q2
      rw [← hx, ← hy, ← ht] at H1 H2
      rw [← hy, ← ht] at Hva
      have KV : Hid (∀ z : World, _) := fun z => l1In_v y z
      have KU : Hid (∀ w : World, _) := fun w => l1In_v t w
      have FV : Hid (vxB y = true → ∀ z : World, _) := fun h z => FormatInt_sv y h z
      have FU : Hid (vxB t = true → ∀ w : World, _) := fun h w => FormatInt_sv t h w
      clear hx hy ht hp HS hall
      cases hv : vxB y
      · rw [hv] at KV
        have Hf := Lib.hid (Hbad.out (by rw [Hva.out, hv]; rfl))
        clear hv
        go_wp2_with fail
        refine (KV.out wr).mono ?_
        rintro e w1 ⟨rfl, hb1⟩
        have HB1 := Lib.hid (HB.out.keep hb1)
        clear hb1
        go_wp2
        go_ret
        exact ⟨by rw [Hf.out]; rfl, HB1.out.below⟩
      · rw [hv] at KV
        have FV' := Lib.hid (FV.out hv)
        have Hv' : Hid (vxB y = true) := hv
        clear hv
        cases hu : vxB t
        · rw [hu] at KU
          have Hf := Lib.hid (Hbad.out (by rw [Hva.out, Hv'.out, hu]; rfl))
          clear hu
          go_wp2_with fail
          refine (KV.out wr).mono ?_
          rintro e w1 ⟨rfl, hb1⟩
          have HB1 := Lib.hid (HB.out.keep hb1)
          have m2 := (hb1.cell (p := ⟨b, o + k * 3 + 2, none⟩) Hb.out).trans q2
          clear hb1 q0 q1 q2
          go_wp2_with fail
          refine (KU.out w1).mono ?_
          rintro e w2 ⟨rfl, hb2⟩
          have HB2 := Lib.hid (HB1.out.keep hb2)
          clear hb2
          go_wp2
          go_ret
          exact ⟨by rw [Hf.out]; rfl, HB2.out.below⟩
        · rw [hu] at KU
          have FU' := Lib.hid (FU.out hu)
          have Hg := Lib.hid (Hgo.out (by rw [Hva.out, Hv'.out, hu]; rfl))
          clear hu FV FU Hbad Hgo Hva Hv'
          go_wp2_with fail
          refine (KV.out wr).mono ?_
          rintro e w1 ⟨rfl, hb1⟩
          have HB1 := Lib.hid (HB.out.keep hb1)
          have m0 := (hb1.cell (p := ⟨b, o + k * 3, none⟩) Hb.out).trans q0
          have m1 := (hb1.cell (p := ⟨b, o + k * 3 + 1, none⟩) Hb.out).trans q1
          have m2 := (hb1.cell (p := ⟨b, o + k * 3 + 2, none⟩) Hb.out).trans q2
          have hz1 := hb1.size
          clear hb1 q0 q1 q2
          go_wp2_with fail
          refine (KU.out w1).mono ?_
          rintro e w2 ⟨rfl, hb2⟩
          have HB2 := Lib.hid (HB1.out.keep hb2)
          have r0 := (hb2.cell (p := ⟨b, o + k * 3, none⟩) (by show b < _; omega)).trans m0
          have r1 := (hb2.cell (p := ⟨b, o + k * 3 + 1, none⟩) (by show b < _; omega)).trans m1
          have r2 := (hb2.cell (p := ⟨b, o + k * 3 + 2, none⟩) (by show b < _; omega)).trans m2
          have hz2 := hb2.size
          have hsy := dvB_size y
          have hst := dvB_size t
          obtain ⟨D1, hD1⟩ : ∃ D, D = dvB y := ⟨_, rfl⟩
          obtain ⟨D2, hD2⟩ : ∃ D, D = dvB t := ⟨_, rfl⟩
          rw [← hD1] at hsy FV' H1 H2
          rw [← hD2] at hst FU' H1 H2
          clear hD1 hD2
          have hb' : b < w2.heap.size := by omega
          clear hb2 m0 m1 m2 HB HB1
          by_cases h0 : k = 0
          · have i3 : (k : Int) ≤ (0 : Int) := by omega
            have H3 := Lib.hid (H1.out h0)
            clear H1 H2 h0
            cases x
            · go_wp2
              have h7 : ¬ 9223372036854775807 < (S ++ ⟨#[45]⟩).size + D1.size := by simp only [ByteArray.size_append, show ∀ x : UInt8, (⟨#[x]⟩ : ByteArray).size = 1 from fun _ => rfl]; omega
              have h14 : ¬ 9223372036854775807 < (S ++ ⟨#[45]⟩).size + D1.size + D2.size := by simp only [ByteArray.size_append, show ∀ x : UInt8, (⟨#[x]⟩ : ByteArray).size = 1 from fun _ => rfl]; omega
              obtain ⟨S1, hS1⟩ : ∃ S1, S1 = S ++ (⟨#[45]⟩ : ByteArray) := ⟨_, rfl⟩
              rw [← hS1] at h7 h14 ⊢
              have H4 : Hid (fmJ a v u (k + 1) = S1 ++ D1 ++ D2) := by rw [hS1]; exact H3.out
              clear hS1 hs H3 hsy hst
              have HSC : Hid (∀ z : World, Below w2.heap.size w2 z → (Below w2.heap.size w2 z ∧ z.cell? ⟨b, o + k * 3 + 1, none⟩ = some (.int .i64 y) ∧ z.cell? ⟨b, o + k * 3 + 2, none⟩ = some (.int .i64 t))) := fun z hz => ⟨hz, up_ hz r1, up_ hz r2⟩
              have HZ0 : Hid (Below w2.heap.size w2 w2.drew) := (Below.refl _ _).drew
              have HS1 := Lib.hid (HSC.out _ HZ0.out)
              have KR1 : Hid (∀ z : World, Below w2.heap.size w2 z → _) := fun z hz => FV'.out z
              have KR2 : Hid (∀ z : World, Below w2.heap.size w2 z → _) := fun z hz => FU'.out z
              go_region_held3 (fun z => Below w2.heap.size w2 z ∧ z.cell? ⟨b, o + k * 3 + 1, none⟩ = some (.int .i64 y) ∧ z.cell? ⟨b, o + k * 3 + 2, none⟩ = some (.int .i64 t))
                (first | exact HS1.out | assumption | exact HSC.out _ hz2 | exact HSC.out _ hz1 | fail)
                (first | (go_at_call 49; ((with_reducible refine (KR1.out _ HZ0.out).mono ?_); rintro e w1 ⟨rfl, hb1⟩; have hz1 := bl_trans HZ0.out hb1)) | (go_at_call 49; ((with_reducible refine (KR2.out _ hz1).mono ?_); rintro e w2 ⟨rfl, hb2⟩; have hz2 := bl_trans hz1 hb2)))
              replace HB2 := Lib.hid (HB2.out.keep hz2)
              clear hb1 hz1 hb2 hz2 HSC HZ0 HS1 KR1 KR2
              go_wp2
              go_roundw
              case rel => exact ⟨k + 1, _, by omega, rfl, by go_num, fun _ => by omega, H4.out.symm, Hg, HB2⟩
              case measure => (simp [intOf] <;> omega)
            · go_wp2
              have h7 : ¬ 9223372036854775807 < (S ++ ⟨#[43]⟩).size + D1.size := by simp only [ByteArray.size_append, show ∀ x : UInt8, (⟨#[x]⟩ : ByteArray).size = 1 from fun _ => rfl]; omega
              have h14 : ¬ 9223372036854775807 < (S ++ ⟨#[43]⟩).size + D1.size + D2.size := by simp only [ByteArray.size_append, show ∀ x : UInt8, (⟨#[x]⟩ : ByteArray).size = 1 from fun _ => rfl]; omega
              obtain ⟨S1, hS1⟩ : ∃ S1, S1 = S ++ (⟨#[43]⟩ : ByteArray) := ⟨_, rfl⟩
              rw [← hS1] at h7 h14 ⊢
              have H4 : Hid (fmJ a v u (k + 1) = S1 ++ D1 ++ D2) := by rw [hS1]; exact H3.out
              clear hS1 hs H3 hsy hst
              have HSC : Hid (∀ z : World, Below w2.heap.size w2 z → (Below w2.heap.size w2 z ∧ z.cell? ⟨b, o + k * 3 + 1, none⟩ = some (.int .i64 y) ∧ z.cell? ⟨b, o + k * 3 + 2, none⟩ = some (.int .i64 t))) := fun z hz => ⟨hz, up_ hz r1, up_ hz r2⟩
              have HZ0 : Hid (Below w2.heap.size w2 w2.drew) := (Below.refl _ _).drew
              have HS1 := Lib.hid (HSC.out _ HZ0.out)
              have KR1 : Hid (∀ z : World, Below w2.heap.size w2 z → _) := fun z hz => FV'.out z
              have KR2 : Hid (∀ z : World, Below w2.heap.size w2 z → _) := fun z hz => FU'.out z
              go_region_held3 (fun z => Below w2.heap.size w2 z ∧ z.cell? ⟨b, o + k * 3 + 1, none⟩ = some (.int .i64 y) ∧ z.cell? ⟨b, o + k * 3 + 2, none⟩ = some (.int .i64 t))
                (first | exact HS1.out | assumption | exact HSC.out _ hz4 | exact HSC.out _ hz3 | fail)
                (first | (go_at_call 49; ((with_reducible refine (KR1.out _ HZ0.out).mono ?_); rintro e w3 ⟨rfl, hb3⟩; have hz3 := bl_trans HZ0.out hb3)) | (go_at_call 49; ((with_reducible refine (KR2.out _ hz3).mono ?_); rintro e w4 ⟨rfl, hb4⟩; have hz4 := bl_trans hz3 hb4)))
              replace HB2 := Lib.hid (HB2.out.keep hz4)
              clear hb3 hz3 hb4 hz4 HSC HZ0 HS1 KR1 KR2
              go_wp2
              go_roundw
              case rel => exact ⟨k + 1, _, by omega, rfl, by go_num, fun _ => by omega, H4.out.symm, Hg, HB2⟩
              case measure => (simp [intOf] <;> omega)
          · have i3 : (0 : Int) < (k : Int) := by omega
            have H3 := Lib.hid (H2.out h0)
            clear H1 H2 h0
            cases x
            · go_wp2
              have h7 : ¬ 9223372036854775807 < (S ++ ⟨#[44]⟩ ++ ⟨#[45]⟩).size + D1.size := by simp only [ByteArray.size_append, show ∀ x : UInt8, (⟨#[x]⟩ : ByteArray).size = 1 from fun _ => rfl]; omega
              have h14 : ¬ 9223372036854775807 < (S ++ ⟨#[44]⟩ ++ ⟨#[45]⟩).size + D1.size + D2.size := by simp only [ByteArray.size_append, show ∀ x : UInt8, (⟨#[x]⟩ : ByteArray).size = 1 from fun _ => rfl]; omega
              obtain ⟨S1, hS1⟩ : ∃ S1, S1 = S ++ ⟨#[44]⟩ ++ (⟨#[45]⟩ : ByteArray) := ⟨_, rfl⟩
              rw [← hS1] at h7 h14 ⊢
              have H4 : Hid (fmJ a v u (k + 1) = S1 ++ D1 ++ D2) := by rw [hS1]; exact H3.out
              clear hS1 hs H3 hsy hst
              have HSC : Hid (∀ z : World, Below w2.heap.size w2 z → (Below w2.heap.size w2 z ∧ z.cell? ⟨b, o + k * 3 + 1, none⟩ = some (.int .i64 y) ∧ z.cell? ⟨b, o + k * 3 + 2, none⟩ = some (.int .i64 t))) := fun z hz => ⟨hz, up_ hz r1, up_ hz r2⟩
              have HZ0 : Hid (Below w2.heap.size w2 w2.drew) := (Below.refl _ _).drew
              have HS1 := Lib.hid (HSC.out _ HZ0.out)
              have KR1 : Hid (∀ z : World, Below w2.heap.size w2 z → _) := fun z hz => FV'.out z
              have KR2 : Hid (∀ z : World, Below w2.heap.size w2 z → _) := fun z hz => FU'.out z
              go_region_held3 (fun z => Below w2.heap.size w2 z ∧ z.cell? ⟨b, o + k * 3 + 1, none⟩ = some (.int .i64 y) ∧ z.cell? ⟨b, o + k * 3 + 2, none⟩ = some (.int .i64 t))
                (first | exact HS1.out | assumption | exact HSC.out _ hz6 | exact HSC.out _ hz5 | fail)
                (first | (go_at_call 49; ((with_reducible refine (KR1.out _ HZ0.out).mono ?_); rintro e w5 ⟨rfl, hb5⟩; have hz5 := bl_trans HZ0.out hb5)) | (go_at_call 49; ((with_reducible refine (KR2.out _ hz5).mono ?_); rintro e w6 ⟨rfl, hb6⟩; have hz6 := bl_trans hz5 hb6)))
              replace HB2 := Lib.hid (HB2.out.keep hz6)
              clear hb5 hz5 hb6 hz6 HSC HZ0 HS1 KR1 KR2
              go_wp2
              go_roundw
              case rel => exact ⟨k + 1, _, by omega, rfl, by go_num, fun _ => by omega, H4.out.symm, Hg, HB2⟩
              case measure => (simp [intOf] <;> omega)
            · go_wp2
              have h7 : ¬ 9223372036854775807 < (S ++ ⟨#[44]⟩ ++ ⟨#[43]⟩).size + D1.size := by simp only [ByteArray.size_append, show ∀ x : UInt8, (⟨#[x]⟩ : ByteArray).size = 1 from fun _ => rfl]; omega
              have h14 : ¬ 9223372036854775807 < (S ++ ⟨#[44]⟩ ++ ⟨#[43]⟩).size + D1.size + D2.size := by simp only [ByteArray.size_append, show ∀ x : UInt8, (⟨#[x]⟩ : ByteArray).size = 1 from fun _ => rfl]; omega
              obtain ⟨S1, hS1⟩ : ∃ S1, S1 = S ++ ⟨#[44]⟩ ++ (⟨#[43]⟩ : ByteArray) := ⟨_, rfl⟩
              rw [← hS1] at h7 h14 ⊢
              have H4 : Hid (fmJ a v u (k + 1) = S1 ++ D1 ++ D2) := by rw [hS1]; exact H3.out
              clear hS1 hs H3 hsy hst
              have HSC : Hid (∀ z : World, Below w2.heap.size w2 z → (Below w2.heap.size w2 z ∧ z.cell? ⟨b, o + k * 3 + 1, none⟩ = some (.int .i64 y) ∧ z.cell? ⟨b, o + k * 3 + 2, none⟩ = some (.int .i64 t))) := fun z hz => ⟨hz, up_ hz r1, up_ hz r2⟩
              have HZ0 : Hid (Below w2.heap.size w2 w2.drew) := (Below.refl _ _).drew
              have HS1 := Lib.hid (HSC.out _ HZ0.out)
              have KR1 : Hid (∀ z : World, Below w2.heap.size w2 z → _) := fun z hz => FV'.out z
              have KR2 : Hid (∀ z : World, Below w2.heap.size w2 z → _) := fun z hz => FU'.out z
              go_region_held3 (fun z => Below w2.heap.size w2 z ∧ z.cell? ⟨b, o + k * 3 + 1, none⟩ = some (.int .i64 y) ∧ z.cell? ⟨b, o + k * 3 + 2, none⟩ = some (.int .i64 t))
                (first | exact HS1.out | assumption | exact HSC.out _ hz8 | exact HSC.out _ hz7 | fail)
                (first | (go_at_call 49; ((with_reducible refine (KR1.out _ HZ0.out).mono ?_); rintro e w7 ⟨rfl, hb7⟩; have hz7 := bl_trans HZ0.out hb7)) | (go_at_call 49; ((with_reducible refine (KR2.out _ hz7).mono ?_); rintro e w8 ⟨rfl, hb8⟩; have hz8 := bl_trans hz7 hb8)))
              replace HB2 := Lib.hid (HB2.out.keep hz8)
              clear hb7 hz7 hb8 hz8 HSC HZ0 HS1 KR1 KR2
              go_wp2
              go_roundw
              case rel => exact ⟨k + 1, _, by omega, rfl, by go_num, fun _ => by omega, H4.out.symm, Hg, HB2⟩
              case measure => (simp [intOf] <;> omega)
    · have i1 : (n : Int) ≤ (k : Int) := by omega
      obtain rfl : k = n := by omega
      by_cases h0 : k = 0
      · have Ho : Hid (fmO k a v u = ⟨#[110, 111, 110, 101]⟩) := by rw [h0]; exact fmO_none
        obtain rfl : S = ⟨#[]⟩ := by rw [HS.out, h0]; rfl
        clear h0
        go_wp2
        go_ret
        exact ⟨by rw [Ho.out]; rfl, HB.out.below⟩
      · have Ho : Hid (fmO k a v u = S) := by rw [HS.out]; exact fmO_yes (by omega) (h12 h0) hall.out
        have hs : 0 < S.size := by rw [HS.out]; exact fmJ_some a v u (by omega)
        have e1 : ¬ S = ⟨#[]⟩ := fun h => by rw [h] at hs; exact absurd hs (by decide)
        have e2 : S.toList.isEmpty = false := by rw [List.isEmpty_eq_false_iff]; exact fun h => e1 ((toList_nil_iff_emptyBytes S).1 h)
        clear h0 hs
        go_wp2
        go_ret
        exact ⟨by rw [Ho.out]; rfl, HB.out.below⟩
end Go.Proofs.YtppkokgiojcgbaaGreatDoor
