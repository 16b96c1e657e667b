/-
  Several texts in one.
-/
import Derived.Test.YtppkokgiojcgbaaGreatDoorQyListS
import Derived.Test.YtppkokgiojcgbaaGreatDoorQyFmS
import Derived.Lib.Join
import Derived.Lib.ItoaLen
import Derived.Shelf.LaysM
import Derived.Test.YtppkokgiojcgbaaGreatDoorQyShlF
import Derived.Test.YtppkokgiojcgbaaGreatDoorQySet2I
/-
  Contracts: the first place of a list at which something holds, whatever it is.
-/
namespace Go.Proofs.YtppkokgiojcgbaaGreatDoor
open Go.RowKit

theorem LN.li {w : World} {A : Option Addr} {c : Nat} {l : List Nat} (h : LN w A c l) : LI w A l.length c (l.map fun v : Nat => (v : Int)) :=
  ⟨by simp, h.rd.congr fun k hk => by simp [List.getD, hk]⟩
section
variable {fn : FuncId} {caps : Array Value} {p : Int → Bool}
end
end Go.Proofs.YtppkokgiojcgbaaGreatDoor

/-
  Contracts: may a list of edits be written? The program's way (slices.ContainsFunc with the closure of FormatEdits).
-/
namespace Go.Proofs.YtppkokgiojcgbaaGreatDoor
open Go.RowKit

/-- A vertex that may be written. -/
def vxB (v : Int) : Bool := decide (0 ≤ v) && decide (v ≤ 6)
theorem vxB_yes {v : Int} (h : vxB v = true) : 0 ≤ v ∧ v ≤ 6 := by
  unfold vxB at h; simpa using h
theorem vxB_no {v : Int} (h : vxB v = false) : v < 0 ∨ 6 < v := by
  unfold vxB at h; simp only [Bool.and_eq_false_iff, decide_eq_false_iff_not] at h; omega

theorem within_v (v : Int) (w : World) : Calls Tryz.prog 85 #[.int .i64 v, .int .i64 0, .int .i64 6] w fun e w' => e = .returned (.bool (vxB v)) ∧ Below w.heap.size w w' :=
  (within_any v 0 6 w).mono fun _ _ ⟨h1, h2⟩ => ⟨h1, h2 ▸ Below.refl _ _⟩
theorem l1In_v (v : Int) (w : World) : Calls Tryz.prog 92 #[.int .i64 v, .int .i64 0, .int .i64 6] w fun e w' => e = .returned (.bool (vxB v)) ∧ Below w.heap.size w w' := by
  cases hv : vxB v
  · exact (l1In_no v 0 6 w (vxB_no hv)).mono fun _ _ ⟨h1, h2⟩ => ⟨h1, h2 ▸ Below.refl _ _⟩
  · exact (l1In_yes v 0 6 w (vxB_yes hv).1 (vxB_yes hv).2).mono fun _ _ ⟨h1, h2⟩ => ⟨h1, h2 ▸ Below.refl _ _⟩

/-- An edit that may be written. -/
def exB (v u : Int) : Bool := vxB v && vxB u

set_option maxHeartbeats 1000000 in
theorem FormatEditsF (a : Bool) (v u : Int) (w : World) : Calls Tryz.prog 84 #[.agg #[.bool a, .int .i64 v, .int .i64 u]] w fun e w' => e = .returned (.bool (!exB v u)) ∧ Below w.heap.size w w' := by
  obtain ⟨W, hW⟩ : ∃ W : World, W = w.alloc (Obj.cells #[.bool a, .int .i64 v, .int .i64 u] 59) := ⟨_, rfl⟩
  have HB : Hid (Below w.heap.size w W) := by rw [hW]; exact (Below.refl _ _).alloc (Nat.le_refl _) _
  have hz : w.heap.size < W.heap.size := by rw [hW]; simp
  have e1 : W.cell? ⟨w.heap.size, 1, none⟩ = some (.int .i64 v) := by rw [hW]; simp [go_sem]
  have e2 : W.cell? ⟨w.heap.size, 2, none⟩ = some (.int .i64 u) := by rw [hW]; simp [go_sem]
  have HW := Lib.hid hW
  clear hW
  have K1 := Lib.hid (within_v v W)
  cases h1 : vxB v
  · rw [h1] at K1
    have HE : Hid (exB v u = false) := by show _ = _; unfold exB; rw [h1]; rfl
    clear h1
    go_enter Tryz.func84, Tryz.ntmps84
    go_wp2_with fail
    rw [← HW.out]
    clear HW
    refine K1.out.mono ?_
    rintro e w1 ⟨rfl, hb1⟩
    have HB1 := Lib.hid (HB.out.trans (hb1.mono (by omega)))
    clear hb1
    go_wp2
    go_ret
    exact ⟨by rw [HE.out]; rfl, HB1.out⟩
  · rw [h1] at K1
    have HE : Hid (exB v u = vxB u) := by show _ = _; unfold exB; rw [h1]; rfl
    clear h1
    go_enter Tryz.func84, Tryz.ntmps84
    go_wp2_with fail
    rw [← HW.out]
    clear HW
    refine K1.out.mono ?_
    rintro e w1 ⟨rfl, hb1⟩
    have HB1 := Lib.hid (HB.out.trans (hb1.mono (by omega)))
    have f2 : w1.cell? ⟨w.heap.size, 2, none⟩ = some (.int .i64 u) := (hb1.cell (p := ⟨w.heap.size, 2, none⟩) hz).trans e2
    have hz1 := hb1.size
    clear hb1 e1 e2
    go_wp2_with fail
    refine (within_v u w1).mono ?_
    rintro e w2 ⟨rfl, hb2⟩
    have HB2 := Lib.hid (HB1.out.trans (hb2.mono (by omega)))
    clear hb2
    go_wp2
    go_ret
    exact ⟨by rw [HE.out]; rfl, HB2.out⟩

/-- The first edit that may not be written. -/
def exP (v u : Nat → Int) (n : Nat) : Int := fIdx (fun j => !exB (v j) (u j)) n
set_option maxHeartbeats 1000000 in
theorem IndexFunc_e (A : Option Addr) (n c : Nat) (a : Nat → Bool) (v u : Nat → Int) (w : World) (h : RdE w w.heap.size A n c a v u) (hn : n ≤ 1048577) :
    Calls Tryz.prog 146 #[.slice A n c, .func (.func 84) #[] #[]] w fun e w' => e = .returned (.int .i64 (exP v u n)) ∧ Below w.heap.size w w' := by
  have HL := Lib.hid h
  clear h
  go_enter Tryz.func146, Tryz.ntmps146
  go_wp2
  go_loopw [8] (fun i wr => ∃ k : Nat, k ≤ n ∧ i = .int .i64 k ∧ Hid (∀ j, j < k → (!exB (v j) (u j)) = false) ∧ Hid (Below w.heap.size w wr)) (fun i _ => n - (intOf i).toNat)
  case atStart => exact ⟨0, Nat.zero_le _, rfl, (fun j hj => absurd hj (by omega)), Below.refl _ _⟩
  case round =>
    obtain ⟨k, hk, rfl, hall, hbr⟩ := hrel
    have zr := hbr.out.size
    by_cases hlt : k < n
    · obtain ⟨b, o, rfl, hb, hc⟩ := (HL.out.keep hbr.out (Nat.le_refl _)).2 (by omega)
      obtain ⟨q0, q1, q2⟩ := hc k hlt
      have K1 := Lib.hid (FormatEditsF (a k) (v k) (u k) wr)
      have i1 : (k : Int) < (n : Int) := by omega
      clear hc
      cases hp : exB (v k) (u k)
      · rw [hp] at K1
        have Hi : Hid (exP v u n = k) := fIdx_yes hlt (by rw [hp]; rfl) hall.out
        clear hp
        go_wp2_with fail
        refine K1.out.mono ?_
        rintro e w3 ⟨rfl, hb3⟩
        have HB3 : Hid (Below w.heap.size w w3) := hbr.out.trans (hb3.mono zr)
        clear hb3 hbr q0 q1 q2
        go_wp2
        go_ret
        exact ⟨ret_int Hi.out.symm, HB3.out⟩
      · rw [hp] at K1
        have Hp : Hid ((!exB (v k) (u k)) = false) := by show _ = _; rw [hp]; rfl
        clear hp
        go_wp2_with fail
        refine K1.out.mono ?_
        rintro e w3 ⟨rfl, hb3⟩
        have HB3 : Hid (Below w.heap.size w w3) := hbr.out.trans (hb3.mono zr)
        clear hb3 hbr q0 q1 q2
        go_wp2
        go_roundw
        case rel =>
          refine ⟨k + 1, by omega, by go_num, fun j hj => ?_, HB3⟩
          by_cases hjk : j < k
          · exact hall.out j hjk
          · obtain rfl : j = k := by omega
            exact Hp.out
        case measure => simp [intOf]; omega
    · have Hi : Hid (exP v u n = -1) := fIdx_no fun j hj => hall.out j (by omega)
      have i1 : (n : Int) ≤ (k : Int) := by omega
      go_wp2
      go_ret
      exact ⟨ret_int Hi.out.symm, hbr.out⟩
theorem ContainsFunc_e (A : Option Addr) (n c : Nat) (a : Nat → Bool) (v u : Nat → Int) (w : World) (h : RdE w w.heap.size A n c a v u) (hn : n ≤ 1048577) :
    Calls Tryz.prog 83 #[.slice A n c, .func (.func 84) #[] #[]] w fun e w' => e = .returned (.bool (decide (0 ≤ exP v u n))) ∧ Below w.heap.size w w' := by
  have K := Lib.hid (IndexFunc_e A n c a v u w h hn)
  clear h
  obtain ⟨t, ht⟩ : ∃ t, t = exP v u n := ⟨_, rfl⟩
  rw [← ht] at K ⊢
  clear ht
  go_enter Tryz.func83, Tryz.ntmps83
  go_wp2_with fail
  refine K.out.mono ?_
  rintro e w1 ⟨rfl, hb1⟩
  have HB := Lib.hid hb1
  clear hb1
  go_wp2
  go_ret
  exact ⟨rfl, HB.out⟩
end Go.Proofs.YtppkokgiojcgbaaGreatDoor

/-
  What a list of edits reads as, as text: in plain words.
-/
namespace Go.Proofs.YtppkokgiojcgbaaGreatDoor
open Go.RowKit

theorem dataApp (a b : ByteArray) : (a ++ b).data.toList = a.data.toList ++ b.data.toList := by simp
theorem join_snoc (xs : List (List UInt8)) (y sep : List UInt8) (h : xs ≠ []) : Lib.join (xs ++ [y]) sep = Lib.join xs sep ++ (sep ++ y) := by
  cases xs with
  | nil => exact absurd rfl h
  | cons x r =>
    rw [List.cons_append, Lib.join_cons, Lib.join_cons]
    simp [Lib.joinTail, List.append_assoc]
def dvB (v : Int) : ByteArray := dgB v.toNat
def sgn (a : Bool) : ByteArray := if a then ⟨#[43]⟩ else ⟨#[45]⟩
/-- The text of the first k edits. -/
def fmJ (a : Nat → Bool) (v u : Nat → Int) : Nat → ByteArray
  | 0 => ⟨#[]⟩
  | k + 1 => (if k = 0 then fmJ a v u k else fmJ a v u k ++ ⟨#[44]⟩) ++ sgn (a k) ++ dvB (v k) ++ dvB (u k)
/-- What FormatEdits answers. -/
def fmO (n : Nat) (a : Nat → Bool) (v u : Nat → Int) : ByteArray := if 12 < n ∨ 0 ≤ exP v u n then ⟨#[]⟩ else if n = 0 then ⟨#[110, 111, 110, 101]⟩ else fmJ a v u n

theorem FormatInt_sv (v : Int) (hv : vxB v = true) (w : World) : Calls Tryz.prog 49 #[.int .i64 v] w fun e w' => e = .returned (.string (dvB v)) ∧ Below w.heap.size w w' := by
  obtain ⟨h0, h1⟩ := vxB_yes hv
  obtain ⟨d, rfl⟩ : ∃ d : Nat, v = d := ⟨v.toNat, by omega⟩
  exact FormatInt_s1 d (by omega) w

theorem exP_bad {v u : Nat → Int} {n k : Nat} (hk : k < n) (h : exB (v k) (u k) = false) : 0 ≤ exP v u n := by
  unfold exP fIdx
  cases e : (List.range n).find? (fun j => !exB (v j) (u j)) with
  | some j => show (0 : Int) ≤ (j : Int); omega
  | none =>
    rw [List.find?_eq_none] at e
    have := e k (List.mem_range.2 hk)
    rw [h] at this; simp at this
theorem exP_good {v u : Nat → Int} {n : Nat} (h : ∀ j, j < n → exB (v j) (u j) = true) : exP v u n < 0 := by
  have : exP v u n = -1 := fIdx_no fun j hj => by rw [h j hj]; rfl
  omega
theorem exP_all {v u : Nat → Int} {n : Nat} (h : exP v u n < 0) : ∀ j, j < n → exB (v j) (u j) = true := by
  intro j hj
  cases e : exB (v j) (u j)
  · exact absurd (exP_bad hj e) (by omega)
  · rfl
theorem exB_two {v u : Int} (h : exB v u = true) : vxB v = true ∧ vxB u = true := by
  unfold exB at h; simpa using h
theorem fmO_many {n : Nat} {a : Nat → Bool} {v u : Nat → Int} (h : 12 < n) : fmO n a v u = ⟨#[]⟩ := by unfold fmO; rw [if_pos (.inl h)]
theorem fmO_bad {n k : Nat} {a : Nat → Bool} {v u : Nat → Int} (hk : k < n) (h : exB (v k) (u k) = false) : fmO n a v u = ⟨#[]⟩ := by unfold fmO; rw [if_pos (.inr (exP_bad hk h))]
theorem fmO_none {a : Nat → Bool} {v u : Nat → Int} : fmO 0 a v u = ⟨#[110, 111, 110, 101]⟩ := by
  unfold fmO
  have := exP_good (v := v) (u := u) (n := 0) fun j hj => absurd hj (by omega)
  rw [if_neg (by omega), if_pos rfl]
theorem fmO_yes {n : Nat} {a : Nat → Bool} {v u : Nat → Int} (h0 : 0 < n) (h12 : n ≤ 12) (h : ∀ j, j < n → exB (v j) (u j) = true) : fmO n a v u = fmJ a v u n := by
  have := exP_good h
  unfold fmO
  rw [if_neg (by omega), if_neg (by omega)]
theorem fmJ_one (a : Nat → Bool) (v u : Nat → Int) {k : Nat} (h : k = 0) : fmJ a v u (k + 1) = fmJ a v u k ++ sgn (a k) ++ dvB (v k) ++ dvB (u k) := by
  show (if k = 0 then _ else _) ++ _ ++ _ ++ _ = _
  rw [if_pos h]
theorem fmJ_more (a : Nat → Bool) (v u : Nat → Int) {k : Nat} (h : k ≠ 0) : fmJ a v u (k + 1) = fmJ a v u k ++ ⟨#[44]⟩ ++ sgn (a k) ++ dvB (v k) ++ dvB (u k) := by
  show (if k = 0 then _ else _) ++ _ ++ _ ++ _ = _
  rw [if_neg h]
theorem dvB_size (v : Int) : (dvB v).size = 1 := rfl
theorem sgn_size (a : Bool) : (sgn a).size = 1 := by cases a <;> rfl
theorem fmJ_size (a : Nat → Bool) (v u : Nat → Int) : ∀ k, (fmJ a v u k).size ≤ 4 * k
  | 0 => Nat.le_refl _
  | k + 1 => by
    have ih := fmJ_size a v u k
    by_cases h : k = 0
    · rw [fmJ_one a v u h]
      simp only [ByteArray.size_append, dvB_size, sgn_size]; omega
    · rw [fmJ_more a v u h]
      simp only [ByteArray.size_append, dvB_size, sgn_size, show (⟨#[44]⟩ : ByteArray).size = 1 from rfl]; omega
theorem fmJ_some (a : Nat → Bool) (v u : Nat → Int) {k : Nat} (h : 0 < k) : 0 < (fmJ a v u k).size := by
  obtain ⟨j, rfl⟩ : ∃ j, k = j + 1 := ⟨k - 1, by omega⟩
  by_cases h : j = 0
  · rw [fmJ_one a v u h]; simp only [ByteArray.size_append, dvB_size, sgn_size]; omega
  · rw [fmJ_more a v u h]; simp only [ByteArray.size_append, dvB_size, sgn_size]; omega
/-- A list of edits that is only read. -/
structure RE (w : World) (A : Option Addr) (n c : Nat) (a : Nat → Bool) (v u : Nat → Int) : Prop where
  rd : RdE w w.heap.size A n c a v u
theorem RE.keep {w w' : World} {A : Option Addr} {n c : Nat} {a : Nat → Bool} {v u : Nat → Int} (h : RE w A n c a v u) (hb : Below w.heap.size w w') : RE w' A n c a v u := ⟨h.rd.keep hb hb.size⟩
theorem fmO_size {n : Nat} {a : Nat → Bool} {v u : Nat → Int} : (fmO n a v u).size ≤ 48 := by
  unfold fmO
  split
  · exact Nat.zero_le _
  · split
    · decide
    · have := fmJ_size a v u n; omega
end Go.Proofs.YtppkokgiojcgbaaGreatDoor

/-
  Numbers, lists of numbers and lists of words as text: in plain words.
-/
namespace Go.Proofs.YtppkokgiojcgbaaGreatDoor
open Go.RowKit

/-- The numeral. -/
def itB (n : Int) : ByteArray := ⟨(Lib.itoa n).toArray⟩
theorem itB_dg {d : Nat} (h : d < 10) : itB (d : Int) = dgB d := by
  unfold itB dgB
  rw [Lib.itoa_nonneg, Lib.decDigits_one h]
end Go.Proofs.YtppkokgiojcgbaaGreatDoor

/-
  Contract: the library's Itoa at every int, laid at this seat.
-/
namespace Go.Proofs.YtppkokgiojcgbaaGreatDoor
open Go.Shelf Go.RowKit
theorem layItoaM : Go.Proofs.LaysM.n171 Tryz.prog layItoa_ren := { layItoa with
  i0 := by kernel_rfl
  i2 := by kernel_rfl
  i3 := by kernel_rfl
  i4 := by kernel_rfl
  i5 := by kernel_rfl
  i9 := by kernel_rfl
  i20 := by kernel_rfl
  i37 := by kernel_rfl
  i46 := by kernel_rfl
  i51 := by kernel_rfl
  i53 := by kernel_rfl
  i171 := by kernel_rfl
  i173 := by kernel_rfl
  i212 := by kernel_rfl
  i232 := by kernel_rfl
  i233 := by kernel_rfl
  m17 := by kernel_rfl
  m18 := by kernel_rfl
  m19 := by kernel_rfl }
/-- The library's table of powers lies as its initialiser lays it. -/
def Tb (w : World) : Prop := Lib.TabIs Tryz.prog w "internal/strconv.uint64pow10" .u64 Lib.pow10Tab
theorem Tb.keep {w w' : World} (h : Tb w) (hb : Below w.heap.size w w') : Tb w' := by
  have hg : Tryz.prog.globalNamed "internal/strconv.uint64pow10" = some (layItoa_ren.g 17) := layItoaM.m17
  unfold Tb Lib.TabIs World.var? at h ⊢
  rw [hg] at h ⊢
  simp only [Option.bind_some] at h ⊢
  have hlt : layItoa_ren.g 17 < w.heap.size := by
    rcases Nat.lt_or_ge (layItoa_ren.g 17) w.heap.size with h' | h'
    · exact h'
    · rw [Array.getElem?_eq_none h'] at h; cases h
  rw [hb.block _ hlt]
  exact h
/-- Small numbers: no table is read. -/
theorem FormatInt_im (n : Int) (h0 : 0 ≤ n) (h1 : n < 10) (w : World) : Calls Tryz.prog 55 #[.int .i64 n] w fun e w' => e = .returned (.string (itB n)) ∧ w' = w := by
  obtain ⟨d, rfl⟩ : ∃ d : Nat, n = d := ⟨n.toNat, by omega⟩
  have K := Lib.hid (itoa_small d (by omega) w)
  have HE : Hid ((⟨(Lib.decDigits d).toArray⟩ : ByteArray) = itB (d : Int)) := by
    show _ = _
    unfold itB
    rw [Lib.itoa_nonneg]
  clear h0 h1
  go_enter Tryz.func55, Tryz.ntmps55
  go_wp2_with fail
  refine K.out.mono ?_
  rintro e w1 ⟨rfl, rfl⟩
  rw [HE.out]
  go_wp2
  go_ret
  exact ⟨rfl, rfl⟩
theorem FormatInt_sm (n : Int) (h0 : 0 ≤ n) (h1 : n < 10) (w : World) : Calls Tryz.prog 49 #[.int .i64 n] w fun e w' => e = .returned (.string (itB n)) ∧ Below w.heap.size w w' := by
  obtain ⟨d, rfl⟩ : ∃ d : Nat, n = d := ⟨n.toNat, by omega⟩
  rw [itB_dg (by omega)]
  exact FormatInt_s1 d (by omega) w
end Go.Proofs.YtppkokgiojcgbaaGreatDoor
