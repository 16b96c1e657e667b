/-
  Contract: the library's Itoa at every int, laid at this seat.
-/
import Derived.Shelf.LaysM
import Derived.Test.YtppkokgiojcgbaaDoorQzShlF
import Derived.Test.YtppkokgiojcgbaaDoorQzDecP
import Derived.Test.YtppkokgiojcgbaaDoorQzV
namespace Go.Proofs.YtppkokgiojcgbaaDoor
open Go.Shelf Go.RowKit
theorem layItoaM : Go.Proofs.LaysM.n171 Tryd.prog layItoa_ren := { layItoa with
  i0 := by kernel_rfl
  i2 := by kernel_rfl
  i3 := by kernel_rfl
  i4 := by kernel_rfl
  i5 := by kernel_rfl
  i9 := by kernel_rfl
  i20 := by kernel_rfl
  i37 := by kernel_rfl
  i46 := by kernel_rfl
  i51 := by kernel_rfl
  i53 := by kernel_rfl
  i171 := by kernel_rfl
  i173 := by kernel_rfl
  i212 := by kernel_rfl
  i232 := by kernel_rfl
  i233 := by kernel_rfl
  m17 := by kernel_rfl
  m18 := by kernel_rfl
  m19 := by kernel_rfl }
/-- The library's table of powers lies as its initialiser lays it. -/
def Tb (w : World) : Prop := Lib.TabIs Tryd.prog w "internal/strconv.uint64pow10" .u64 Lib.pow10Tab
theorem Tb.keep {w w' : World} (h : Tb w) (hb : Below w.heap.size w w') : Tb w' := by
  have hg : Tryd.prog.globalNamed "internal/strconv.uint64pow10" = some (layItoa_ren.g 17) := layItoaM.m17
  unfold Tb Lib.TabIs World.var? at h ⊢
  rw [hg] at h ⊢
  simp only [Option.bind_some] at h ⊢
  have hlt : layItoa_ren.g 17 < w.heap.size := by
    rcases Nat.lt_or_ge (layItoa_ren.g 17) w.heap.size with h' | h'
    · exact h'
    · rw [Array.getElem?_eq_none h'] at h; cases h
  rw [hb.block _ hlt]
  exact h
theorem grow_from (w : World) (q : Nat) (os : Array Obj) : Below w.heap.size w (Sort.grow (w.drewN q) os) :=
  ⟨rfl, rfl, rfl, by first | (simp [Sort.grow]; done) | (simp [Sort.grow]; omega), fun i hi => by
    show ((w.drewN q).heap ++ os)[i]? = _
    rw [Array.getElem?_append_left (by show i < w.heap.size; omega)]
    rfl⟩
theorem FormatInt_ia (n : Int) (hn : I64 n) (w : World) (ht : Tb w) : Calls Tryd.prog 43 #[.int .i64 n] w fun e w' => e = .returned (.string (itB n)) ∧ Below w.heap.size w w' := by
  have K : Hid (Calls Tryd.prog 56 #[.int .i64 n] w fun e w' => e = .returned (.string (itB n)) ∧ Below w.heap.size w w') :=
    (Any.strconv_Itoa layItoaM n hn.1 hn.2 w ht).mono fun e w' ⟨he, k, os, hw⟩ => ⟨he, by rw [hw]; exact grow_from w k os⟩
  clear hn ht
  go_enter Tryd.func43, Tryd.ntmps43
  go_wp2_with fail
  refine K.out.mono ?_
  rintro e w1 ⟨rfl, hb1⟩
  go_wp2
  go_ret
  exact ⟨rfl, hb1⟩
/-- Small numbers: no table is read. -/
theorem FormatInt_im (n : Int) (h0 : 0 ≤ n) (h1 : n < 10) (w : World) : Calls Tryd.prog 43 #[.int .i64 n] w fun e w' => e = .returned (.string (itB n)) ∧ w' = w := by
  obtain ⟨d, rfl⟩ : ∃ d : Nat, n = d := ⟨n.toNat, by omega⟩
  have K := Lib.hid (itoa_small d (by omega) w)
  have HE : Hid ((⟨(Lib.decDigits d).toArray⟩ : ByteArray) = itB (d : Int)) := by
    show _ = _
    unfold itB
    rw [Lib.itoa_nonneg]
  clear h0 h1
  go_enter Tryd.func43, Tryd.ntmps43
  go_wp2_with fail
  refine K.out.mono ?_
  rintro e w1 ⟨rfl, rfl⟩
  rw [HE.out]
  go_wp2
  go_ret
  exact ⟨rfl, rfl⟩
theorem FormatInt_sm (n : Int) (h0 : 0 ≤ n) (h1 : n < 10) (w : World) : Calls Tryd.prog 31 #[.int .i64 n] w fun e w' => e = .returned (.string (itB n)) ∧ Below w.heap.size w w' := by
  obtain ⟨d, rfl⟩ : ∃ d : Nat, n = d := ⟨n.toNat, by omega⟩
  rw [itB_dg (by omega)]
  exact FormatInt_s1 d (by omega) w
end Go.Proofs.YtppkokgiojcgbaaDoor
