/-
  Several texts in one.
-/
import Derived.Test.YtppkokgiojcgbaaGreatDoorQyFmS
import Derived.Test.YtppkokgiojcgbaaGreatDoorQyGA
import Derived.Test.YtppkokgiojcgbaaGreatDoorQyFmT
import Derived.Test.YtppkokgiojcgbaaGreatDoorQyShlF
/-
  Contracts: the classes' names, of both programs (in other words than text Names); lists of strings.
-/
namespace Go.Proofs.YtppkokgiojcgbaaGreatDoor
open Go.RowKit

/-- A list of strings, place by place. -/
def stL (l : List ByteArray) (j : Nat) : Value := .string (l.getD j ⟨#[]⟩)
theorem stL_left {l : List ByteArray} {k : ByteArray} {j : Nat} (h : j < l.length) : stL (l ++ [k]) j = stL l j := by
  unfold stL
  simp [List.getD, List.getElem?_append_left h]
theorem stL_news {l : List ByteArray} {k : ByteArray} : ∀ i, i < 1 → (#[Value.string k] : Array Value)[i]? = some (stL (l ++ [k]) (l.length * 1 + i)) := by
  intro i hi
  have h0 : i = 0 := by omega
  subst h0
  unfold stL
  simp [List.getD]
end Go.Proofs.YtppkokgiojcgbaaGreatDoor

/-
  Contract: the program's FormatEdits.
-/
namespace Go.Proofs.YtppkokgiojcgbaaGreatDoor
open Go.RowKit

theorem FormatInt_iv (v : Int) (hv : vxB v = true) (w : World) : Calls Tryz.prog 55 #[.int .i64 v] w fun e w' => e = .returned (.string (dvB v)) ∧ w' = w := by
  obtain ⟨h0, h1⟩ := vxB_yes hv
  obtain ⟨d, rfl⟩ : ∃ d : Nat, v = d := ⟨v.toNat, by omega⟩
  have K := Lib.hid (itoa_small d (by omega) w)
  have HE : Hid ((⟨(Lib.decDigits d).toArray⟩ : ByteArray) = dvB (d : Int)) := by
    show _ = _
    rw [Lib.decDigits_one (by omega)]; rfl
  clear hv h0 h1
  go_enter Tryz.func55, Tryz.ntmps55
  go_wp2_with fail
  refine K.out.mono ?_
  rintro e w1 ⟨rfl, rfl⟩
  rw [HE.out]
  go_wp2
  go_ret
  exact ⟨rfl, rfl⟩

/-- The words. -/
def fmW (a : Nat → Bool) (v u : Nat → Int) (j : Nat) : ByteArray := sgn (a j) ++ dvB (v j) ++ dvB (u j)
def fmL (a : Nat → Bool) (v u : Nat → Int) (k : Nat) : List ByteArray := (List.range k).map (fmW a v u)
theorem fmL_succ (a : Nat → Bool) (v u : Nat → Int) (k : Nat) : fmL a v u (k + 1) = fmL a v u k ++ [fmW a v u k] := by
  unfold fmL; rw [List.range_succ, List.map_append]; rfl
theorem fmL_len (a : Nat → Bool) (v u : Nat → Int) (k : Nat) : (fmL a v u k).length = k := by unfold fmL; simp
theorem fmJ_join (a : Nat → Bool) (v u : Nat → Int) : ∀ k, Lib.join ((fmL a v u k).map (·.data.toList)) [44] = (fmJ a v u k).data.toList
  | 0 => rfl
  | k + 1 => by
    have ih := fmJ_join a v u k
    rw [fmL_succ, List.map_append]
    by_cases h : k = 0
    · subst h
      rw [fmJ_one a v u rfl]
      show Lib.join ([] ++ [(fmW a v u 0).data.toList]) [44] = _
      rw [List.nil_append, Lib.join_one]
      unfold fmW
      simp only [dataApp]
      rfl
    · rw [fmJ_more a v u h]
      show Lib.join (_ ++ [(fmW a v u k).data.toList]) [44] = _
      rw [join_snoc _ _ _ (fun e => h (by have := congrArg List.length e; rw [List.length_map, fmL_len] at this; exact this)), ih]
      unfold fmW
      simp only [dataApp, List.append_assoc]
end Go.Proofs.YtppkokgiojcgbaaGreatDoor

/-
  Contract: the program's FormatEdits.
-/
namespace Go.Proofs.YtppkokgiojcgbaaGreatDoor
open Go.RowKit

theorem stL_own0 (w : World) : Own (w.alloc (Obj.cells #[] 9)) w.heap.size (w.alloc (Obj.cells #[] 9)).heap.size 9 1 (some ⟨w.heap.size, 0, none⟩) 0 0 (stL []) :=
  .inr ⟨w.heap.size, #[], rfl, Nat.le_refl _, by simp, heap_alloc_new w _, Nat.le_refl _, by unfold maxLen; omega, rfl, fun j hj => absurd hj (by omega)⟩

set_option maxRecDepth 100000 in
set_option maxHeartbeats 3200000 in
theorem FormatEdits_i (A : Option Addr) (n c : Nat) (a : Nat → Bool) (v u : Nat → Int) (w : World) (h : RE w A n c a v u) (hn : n ≤ 1048577) :
    Calls Tryz.prog 34 #[.slice A n c] w fun e w' => e = .returned (.string (fmO n a v u)) ∧ Below w.heap.size w w' := by
  have HL := Lib.hid h
  have hn0 : (0 : Int) ≤ (n : Int) := by omega
  by_cases hm : 12 < n
  · have i2 : (12 : Int) < (n : Int) := by omega
    have Ho : Hid (fmO n a v u = ⟨#[]⟩) := fmO_many hm
    clear h
    go_enter Tryz.func34, Tryz.ntmps34
    go_wp2
    go_ret
    exact ⟨by rw [Ho.out]; rfl, Below.refl _ _⟩
  have i2 : (n : Int) ≤ (12 : Int) := by omega
  have KC := Lib.hid (ContainsFunc_e A n c a v u w h.rd hn)
  clear h
  obtain ⟨q, hq⟩ : ∃ q, q = exP v u n := ⟨_, rfl⟩
  by_cases hp : 0 ≤ q
  · have Ho : Hid (fmO n a v u = ⟨#[]⟩) := by unfold fmO; rw [hq] at hp; exact if_pos (.inr hp)
    rw [← hq, show decide (0 ≤ q) = true from decide_eq_true hp] at KC
    clear hq hp
    go_enter Tryz.func34, Tryz.ntmps34
    go_wp2_with fail
    refine KC.out.mono ?_
    rintro e w1 ⟨rfl, hb1⟩
    have HB1 := Lib.hid hb1
    clear hb1
    go_wp2
    go_ret
    exact ⟨by rw [Ho.out]; rfl, HB1.out⟩
  have Hall := Lib.hid (exP_all (v := v) (u := u) (n := n) (by omega))
  rw [← hq, show decide (0 ≤ q) = false from decide_eq_false hp] at KC
  clear hq hp
  go_enter Tryz.func34, Tryz.ntmps34
  go_wp2_with fail
  refine KC.out.mono ?_
  rintro e w1 ⟨rfl, hb1⟩
  have HB1 : Hid (From w w1) := ⟨hb1⟩
  have hz1 := hb1.size
  clear hb1 KC
  go_wp2
  go_loopw [3, 17] (fun l i wr => ∃ (k : Nat) (A' : Option Addr) (c' : Nat), k ≤ n ∧ i = .int .i64 k ∧ l = .slice A' k c' ∧ Hid (Own wr w1.heap.size wr.heap.size 9 1 A' k c' (stL (fmL a v u k))) ∧ Hid (Below w1.heap.size w1 wr)) (fun _ i _ => n - (intOf i).toNat)
  case atStart => exact ⟨0, _, 0, Nat.zero_le _, rfl, rfl, stL_own0 w1, (Below.refl _ _).alloc (Nat.le_refl _) _⟩
  case round =>
    obtain ⟨k, A', c', hk, rfl, rfl, HO, HB⟩ := hrel
    by_cases hlt : k < n
    · have i1 : (k : Int) < (n : Int) := by omega
      have HBr : Hid (Below w.heap.size w wr) := HB1.out.below.trans (HB.out.mono hz1)
      have HR : Hid (RE wr A n c a v u) := HL.out.keep HBr.out
      obtain ⟨b, o, rfl, hb, hc⟩ := HR.out.rd.2 (by omega)
      obtain ⟨q0, q1, q2⟩ := hc k hlt
      obtain ⟨hv, hu⟩ := exB_two (Hall.out k hlt)
      have FV := Lib.hid (FormatInt_iv (v k) hv)
      have FU := Lib.hid (FormatInt_iv (u k) hu)
      have hzr := HB.out.size
      obtain ⟨T, hT⟩ : ∃ T, T = fmL a v u k := ⟨_, rfl⟩
      have HT : Hid (fmL a v u (k + 1) = T ++ [sgn (a k) ++ dvB (v k) ++ dvB (u k)]) := by rw [hT]; exact fmL_succ a v u k
      have hTl : Hid (T.length = k) := by show _ = _; rw [hT]; exact fmL_len a v u k
      rw [← hT] at HO
      clear hT hv hu hc HR
      obtain ⟨x, hx⟩ : ∃ x, x = a k := ⟨_, rfl⟩
      obtain ⟨y, hy⟩ : ∃ y, y = v k := ⟨_, rfl⟩
      obtain ⟨t, ht⟩ : ∃ t, t = u k := ⟨_, rfl⟩
      rw [← hx] at q0
      rw [← hy] at q1 FV
      rw [← ht] at q2 FU
      rw [← hx, ← hy, ← ht] at HT
      clear hx hy ht
      have hsy := dvB_size y
      have hst := dvB_size t
      obtain ⟨D1, hD1⟩ : ∃ D, D = dvB y := ⟨_, rfl⟩
      obtain ⟨D2, hD2⟩ : ∃ D, D = dvB t := ⟨_, rfl⟩
      rw [← hD1] at hsy FV HT
      rw [← hD2] at hst FU HT
      clear hD1 hD2
      cases x
      · go_wp2
        obtain ⟨W5, hW5⟩ : ∃ W5 : World, W5 = wr.alloc (Obj.cells #[.bool false, .int .i64 y, .int .i64 t] 59) := ⟨_, rfl⟩
        obtain ⟨G, hG⟩ : ∃ G : ByteArray, G = (⟨#[45]⟩ : ByteArray) := ⟨_, rfl⟩
        have hsg : G.size = 1 := by rw [hG]; rfl
        have HT1 : Hid (fmL a v u (k + 1) = T ++ [G ++ D1 ++ D2]) := by rw [hG]; exact HT.out
        have HO5 : Hid (Own W5 w1.heap.size W5.heap.size 9 1 A' k c' (stL T)) := by rw [hW5]; exact (HO.out.alloc _).mono (Nat.le_refl _) (by simp)
        have HB5 : Hid (Below w1.heap.size w1 W5) := by rw [hW5]; exact HB.out.alloc hzr _
        have hz5 := HB5.out.size
        have m1 : W5.drew.cell? ⟨wr.heap.size, 1, none⟩ = some (.int .i64 y) := by rw [hW5]; simp [go_sem]
        have m2 : W5.drew.cell? ⟨wr.heap.size, 2, none⟩ = some (.int .i64 t) := by rw [hW5]; simp [go_sem]
        rw [← hW5, ← hG]
        have h7 : ¬ 9223372036854775807 < G.size + D1.size := by omega
        have h14 : ¬ 9223372036854775807 < G.size + D1.size + D2.size := by omega
        have HP : Hid (Own ((W5.alloc (Obj.cells #[.string (G ++ D1 ++ D2)] 9)).drew) w1.heap.size W5.heap.size 9 1 A' k c' (stL (T ++ [G ++ D1 ++ D2]))) := ((HO5.out.alloc _).drew).congr (fun j hj => (stL_left (by rw [hTl.out]; omega)).symm)
        have HXn : Hid (∀ i, i < 1 → (#[Value.string (G ++ D1 ++ D2)] : Array Value)[i]? = some (stL (T ++ [G ++ D1 ++ D2]) (k * 1 + i))) := by rw [← hTl.out]; exact stL_news
        clear hG hW5 hsg hsy hst HT HO HB q0 q1 q2 HO5
        go_region_law
          (first
            | (go_simp; go_at_call 55; refine (FV.out _).mono ?_; rintro e w2 ⟨rfl, rfl⟩)
            | (go_simp; go_at_call 55; refine (FU.out _).mono ?_; rintro e w2 ⟨rfl, rfl⟩)
            | (refine step_push _ (by rfl) _ _ _ (by rfl) 9 _ 1 16 Tryz.underlying92 info_string rfl (by omega) w1.heap.size _ A' k c' (stL (T ++ [G ++ D1 ++ D2])) (by rfl) HP.out (by simp; omega) W5.heap.size #[.string (G ++ D1 ++ D2)] 9 (0, 0) 1 (heap_alloc_new W5 _) (by rfl) rfl HXn.out (by simp [Value.oneCell']) (by omega) (by omega) ?_; intro g6 cap w6 hp))
        all_goals
          have HO6 : Hid (Own w6 w1.heap.size w6.heap.size 9 1 (some ⟨g6, 0, none⟩) (k + 1) cap (stL (fmL a v u (k + 1)))) := by rw [HT1.out]; exact hp.own
          have HB6 : Hid (Below w1.heap.size w1 w6) := ((HB5.out.alloc hz5 _).drew).trans hp.below
          clear hp HP HXn HB5 m1 m2 h7 h14
          go_wp2
          go_roundw
          case rel => exact ⟨k + 1, _, _, by omega, by go_num, rfl, HO6, HB6⟩
          case measure => (simp [intOf] <;> omega)
      · go_wp2
        obtain ⟨W5, hW5⟩ : ∃ W5 : World, W5 = wr.alloc (Obj.cells #[.bool true, .int .i64 y, .int .i64 t] 59) := ⟨_, rfl⟩
        obtain ⟨G, hG⟩ : ∃ G : ByteArray, G = (⟨#[43]⟩ : ByteArray) := ⟨_, rfl⟩
        have hsg : G.size = 1 := by rw [hG]; rfl
        have HT1 : Hid (fmL a v u (k + 1) = T ++ [G ++ D1 ++ D2]) := by rw [hG]; exact HT.out
        have HO5 : Hid (Own W5 w1.heap.size W5.heap.size 9 1 A' k c' (stL T)) := by rw [hW5]; exact (HO.out.alloc _).mono (Nat.le_refl _) (by simp)
        have HB5 : Hid (Below w1.heap.size w1 W5) := by rw [hW5]; exact HB.out.alloc hzr _
        have hz5 := HB5.out.size
        have m1 : W5.drew.cell? ⟨wr.heap.size, 1, none⟩ = some (.int .i64 y) := by rw [hW5]; simp [go_sem]
        have m2 : W5.drew.cell? ⟨wr.heap.size, 2, none⟩ = some (.int .i64 t) := by rw [hW5]; simp [go_sem]
        rw [← hW5, ← hG]
        have h7 : ¬ 9223372036854775807 < G.size + D1.size := by omega
        have h14 : ¬ 9223372036854775807 < G.size + D1.size + D2.size := by omega
        have HP : Hid (Own ((W5.alloc (Obj.cells #[.string (G ++ D1 ++ D2)] 9)).drew) w1.heap.size W5.heap.size 9 1 A' k c' (stL (T ++ [G ++ D1 ++ D2]))) := ((HO5.out.alloc _).drew).congr (fun j hj => (stL_left (by rw [hTl.out]; omega)).symm)
        have HXn : Hid (∀ i, i < 1 → (#[Value.string (G ++ D1 ++ D2)] : Array Value)[i]? = some (stL (T ++ [G ++ D1 ++ D2]) (k * 1 + i))) := by rw [← hTl.out]; exact stL_news
        clear hG hW5 hsg hsy hst HT HO HB q0 q1 q2 HO5
        go_region_law
          (first
            | (go_simp; go_at_call 55; refine (FV.out _).mono ?_; rintro e w2 ⟨rfl, rfl⟩)
            | (go_simp; go_at_call 55; refine (FU.out _).mono ?_; rintro e w2 ⟨rfl, rfl⟩)
            | (refine step_push _ (by rfl) _ _ _ (by rfl) 9 _ 1 16 Tryz.underlying92 info_string rfl (by omega) w1.heap.size _ A' k c' (stL (T ++ [G ++ D1 ++ D2])) (by rfl) HP.out (by simp; omega) W5.heap.size #[.string (G ++ D1 ++ D2)] 9 (0, 0) 1 (heap_alloc_new W5 _) (by rfl) rfl HXn.out (by simp [Value.oneCell']) (by omega) (by omega) ?_; intro g6 cap w6 hp))
        all_goals
          have HO6 : Hid (Own w6 w1.heap.size w6.heap.size 9 1 (some ⟨g6, 0, none⟩) (k + 1) cap (stL (fmL a v u (k + 1)))) := by rw [HT1.out]; exact hp.own
          have HB6 : Hid (Below w1.heap.size w1 w6) := ((HB5.out.alloc hz5 _).drew).trans hp.below
          clear hp HP HXn HB5 m1 m2 h7 h14
          go_wp2
          go_roundw
          case rel => exact ⟨k + 1, _, _, by omega, by go_num, rfl, HO6, HB6⟩
          case measure => (simp [intOf] <;> omega)
    · have i1 : (n : Int) ≤ (k : Int) := by omega
      obtain rfl : k = n := by omega
      have HBr : Hid (Below w.heap.size w wr) := HB1.out.below.trans (HB.out.mono hz1)
      by_cases h0 : k = 0
      · have Ho : Hid (fmO k a v u = ⟨#[110, 111, 110, 101]⟩) := by rw [h0]; exact fmO_none
        have h0' : (k : Int) = 0 := by omega
        clear HO
        go_wp2
        go_ret
        exact ⟨by rw [Ho.out]; rfl, HBr.out⟩
      · have Ho : Hid (fmO k a v u = fmJ a v u k) := fmO_yes (by omega) (by omega) Hall.out
        obtain ⟨g3, rfl, _, hg3, _, hc3, _⟩ := HO.out.at_ (by omega)
        have hle := HO.out.le
        have KJ : Hid (Calls Tryz.prog 86 #[.slice (some ⟨g3, 0, none⟩) k c', .string ⟨#[44]⟩] wr fun e w' => e = .returned (.string (fmJ a v u k)) ∧ Below wr.heap.size wr w') := by
          have hl := fmL_len a v u k
          have hJ := fmJ_join a v u k
          have hs := fmJ_size a v u k
          have K := join_any g3 0 c' (fmL a v u k) ⟨#[44]⟩ wr (fun j x hx => by
            obtain ⟨hj, hx2⟩ := List.getElem?_eq_some_iff.1 hx
            rw [Nat.zero_add, hc3 j (by rw [← hl]; omega)]
            unfold stL
            simp [List.getD, hx]) hg3 (by omega) (by omega) (by
              show (Lib.join ((fmL a v u k).map (·.data.toList)) [44]).length ≤ _
              rw [hJ]
              have : (fmJ a v u k).data.toList.length = (fmJ a v u k).size := by simp
              omega)
          rw [hl] at K
          refine K.mono fun e w' ⟨he, hb⟩ => ⟨?_, hb⟩
          rw [he]
          show Ending.returned (.string ⟨(Lib.join ((fmL a v u k).map (·.data.toList)) [44]).toArray⟩) = _
          rw [hJ]
        have hk0 : ((k : Int) == 0) = false := by simp; omega
        clear HO hc3
        go_wp2_with fail
        refine KJ.out.mono ?_
        rintro e w2 ⟨rfl, hb2⟩
        have HB2 : Hid (Below w.heap.size w w2) := HBr.out.trans (hb2.mono HBr.out.size)
        clear hb2
        go_wp2
        go_ret
        exact ⟨by rw [Ho.out]; rfl, HB2.out⟩
end Go.Proofs.YtppkokgiojcgbaaGreatDoor
