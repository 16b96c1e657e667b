/-
  Contracts: the cursor of a draw (the reference's l1New, l1Byte, l1Below, l1Once, l1PickInt): whatever the bytes are, a number below the bound comes out.
-/
import Derived.Test.YtncjfgebolikoaaQsV
import Derived.Test.YtncjfgebolikoaaQsListZ
namespace Go.Proofs.Ytncjfgebolikoaa
open Go.RowKit

theorem and255 (x : Int) : ∃ v : Nat, v < 256 ∧ bits .and .i64 x 255 = (v : Int) := by
  refine ⟨(BitVec.ofInt 64 x &&& BitVec.ofInt 64 255).toNat, ?_, ?_⟩
  · rw [BitVec.toNat_and]
    exact Nat.lt_of_le_of_lt Nat.and_le_right (by decide)
  · have h : (BitVec.ofInt 64 x &&& BitVec.ofInt 64 255).toNat < 256 := by
      rw [BitVec.toNat_and]
      exact Nat.lt_of_le_of_lt Nat.and_le_right (by decide)
    show IntKind.i64.wrap ((BitVec.ofInt 64 x &&& BitVec.ofInt 64 255).toNat : Int) = _
    rw [IntKind.wrap_i64]
    omega
/-- A list of bytes that can be read below B. -/
def By (w : World) (B : Nat) (A : Option Addr) (n c : Nat) : Prop := n ≤ c ∧ (0 < n → ∃ b o, A = some ⟨b, o, none⟩ ∧ b < B ∧ ∀ j, j < n → ∃ u : Nat, u < 256 ∧ w.cell? ⟨b, o + j, none⟩ = some (.int .u8 u))
section
variable {w w' : World} {A : Option Addr} {B n c q : Nat}
theorem By.keep (h : By w B A n c) {B' : Nat} (hb : Below B w w') (hB : B ≤ B') : By w' B' A n c := by
  refine ⟨h.1, fun hn => ?_⟩
  obtain ⟨b, o, rfl, hlt, hc⟩ := h.2 hn
  exact ⟨b, o, rfl, by omega, fun j hj => (hc j hj).imp fun u hu => ⟨hu.1, up hb hu.2 hlt⟩⟩
theorem By.keepF (h : By w B A n c) {a b : Nat} (hf : Fr a b w w') (hB : B ≤ a) (hw : B ≤ w.heap.size) : By w' B A n c := h.keep (hf.below hB hw) (Nat.le_refl _)
/-- The cursor: bytes, a place among them, a number. -/
structure Cu (w : World) (q : Nat) (A : Option Addr) (n c : Nat) : Prop where
  ex : ∃ (i : Nat) (h : Int), i ≤ n ∧ w.cell? ⟨q, 0, none⟩ = some (.slice A n c) ∧ w.cell? ⟨q, 1, none⟩ = some (.int .i64 i) ∧ w.cell? ⟨q, 2, none⟩ = some (.int .i64 h)
  f1 : w.frozen? ⟨q, 1, none⟩ = false
  f2 : w.frozen? ⟨q, 2, none⟩ = false
  by_ : By w q A n c
  le : n ≤ 1048576
theorem Cu.lt (h : Cu w q A n c) : q < w.heap.size := by
  obtain ⟨_, _, _, h0, _⟩ := h.ex
  exact World.block_lt_of_cell? _ _ h0
theorem Cu.keepB {B : Nat} (h : Cu w q A n c) (hb : Below B w w') (hq : q < B) : Cu w' q A n c := by
  obtain ⟨i, k, hi, h0, h1, h2⟩ := h.ex
  exact ⟨⟨i, k, hi, up hb h0 hq, up hb h1 hq, up hb h2 hq⟩, upf hb h.f1 hq, upf hb h.f2 hq, h.by_.keep (hb.mono (Nat.le_of_lt hq)) (Nat.le_refl _), h.le⟩
theorem Cu.keep (h : Cu w q A n c) (hb : Below w.heap.size w w') : Cu w' q A n c := h.keepB hb h.lt
/-- What a draw leaves: the cursor, and nothing else of what was there has changed. -/
structure Dr (w : World) (q : Nat) (A : Option Addr) (n c : Nat) (w' : World) : Prop where
  cu : Cu w' q A n c
  fr : Fr q (q + 1) w w'
theorem Dr.trans {w2 : World} (h : Dr w q A n c w') (k : Dr w' q A n c w2) : Dr w q A n c w2 := ⟨k.cu, h.fr.trans k.fr⟩
theorem Dr.of (h : Cu w q A n c) (hb : Below w.heap.size w w') : Dr w q A n c w' := ⟨h.keep hb, Fr.of_below hb⟩
theorem Dr.up (h : Dr w q A n c w') {w2 : World} (hb : Below w'.heap.size w' w2) : Dr w q A n c w2 := h.trans (Dr.of h.cu hb)
theorem Cu.mk' {w W : World} {i : Nat} {h : Int} (hi : i ≤ n) (d0 : W.cell? ⟨q, 0, none⟩ = some (.slice A n c)) (d1 : W.cell? ⟨q, 1, none⟩ = some (.int .i64 i)) (d2 : W.cell? ⟨q, 2, none⟩ = some (.int .i64 h)) (d3 : W.frozen? ⟨q, 1, none⟩ = false) (d4 : W.frozen? ⟨q, 2, none⟩ = false) (hb : By w q A n c) (hq : q < w.heap.size) (hf : Fr q (q + 1) w W) (hn : n ≤ 1048576) : Dr w q A n c W :=
  ⟨⟨⟨i, h, hi, d0, d1, d2⟩, d3, d4, hb.keepF hf (Nat.le_refl _) (Nat.le_of_lt hq), hn⟩, hf⟩
set_option maxRecDepth 100000 in
set_option maxHeartbeats 3200000 in
theorem l1Byte_s (hc : Cu w q A n c) :
    Calls Try.prog 73 #[.pointer (some ⟨q, 0, none⟩)] w fun e w' => ∃ v : Nat, e = .returned (.int .i64 v) ∧ v < 256 ∧ Dr w q A n c w' := by
  have HC := Lib.hid hc
  obtain ⟨i, h, hi, c0, c1, c2⟩ := hc.ex
  have f1 := hc.f1
  have f2 := hc.f2
  have hn := hc.le
  have HBy := Lib.hid hc.by_
  have hlt := hc.lt
  obtain ⟨h2, hh2⟩ : ∃ h2, h2 = wrap64 (wrap64 (h * 6364136223846793005) + 1442695040888963407) := ⟨_, rfl⟩
  obtain ⟨W1, hW1⟩ : ∃ W1 : World, W1 = w.setCell ⟨q, 2, none⟩ (.int .i64 h2) := ⟨_, rfl⟩
  have d0 : W1.cell? ⟨q, 0, none⟩ = some (.slice A n c) := by rw [hW1]; simp [go_sem, c0]
  have d1 : W1.cell? ⟨q, 1, none⟩ = some (.int .i64 i) := by rw [hW1]; simp [go_sem, c1]
  have d2 : W1.cell? ⟨q, 2, none⟩ = some (.int .i64 h2) := by rw [hW1]; simp [go_sem, c2]
  have d3 : W1.frozen? ⟨q, 1, none⟩ = false := by rw [hW1]; simp [go_sem, f1]
  have d4 : Hid (W1.frozen? ⟨q, 2, none⟩ = false) := by rw [hW1]; simp [go_sem, f2, Hid]
  have F1 : Hid (Fr q (q + 1) w W1) := by rw [hW1]; exact (Fr.refl _ _ w).setCell (p := ⟨q, 2, none⟩) (Nat.le_refl _) (Nat.lt_succ_self _) _
  have Hh := Lib.hid hh2
  have HW := Lib.hid hW1
  clear hh2 hW1
  by_cases hin : i < n
  · obtain ⟨b, o, rfl, hbq, hcell⟩ := hc.by_.2 (by omega)
    obtain ⟨u, hu, pu⟩ := hcell i hin
    have i1 : (i : Int) < (n : Int) := by omega
    have p1 : W1.cell? ⟨b, o + i, none⟩ = some (.int .u8 u) := (F1.out.cell (p := ⟨b, o + i, none⟩) (by show b < _; omega) (.inl hbq)).trans pu
    clear hc hcell pu
    go_enter Try.func73, Try.ntmps73
    go_wp2
    rw [← Hh.out, ← HW.out]
    clear c0 c1 c2 f1 f2
    go_quiet (fail)
    go_wp2
    obtain ⟨v, hv, ev⟩ := and255 (bits .xor .i64 (h2 / 8589934592) (h2 / 35184372088832))
    rw [ev]
    clear ev
    go_quiet (fail)
    go_wp2
    go_quiet (fail)
    go_wp2
    obtain ⟨v2, hv2, ev2⟩ := and255 ((v : Int) + (u : Int))
    rw [ev2]
    go_ret
    refine ⟨v2, rfl, hv2, Cu.mk' (i := i + 1) (h := h2) (by omega) ?_ ?_ ?_ ?_ ?_ HBy.out hlt ((F1.out.drewN _).setCell (p := ⟨q, 1, none⟩) (Nat.le_refl _) (Nat.lt_succ_self _) _) hn⟩
    · simp [go_sem, d0]
    · simp [go_sem, d1]
    · simp [go_sem, d2]
    · simp [go_sem, d3]
    · simp [go_sem, d4.out]
  · have i1 : (n : Int) ≤ (i : Int) := by omega
    clear hc
    go_enter Try.func73, Try.ntmps73
    go_wp2
    rw [← Hh.out, ← HW.out]
    clear c0 c1 c2 f1 f2
    go_quiet (fail)
    go_wp2
    obtain ⟨v, hv, ev⟩ := and255 (bits .xor .i64 (h2 / 8589934592) (h2 / 35184372088832))
    rw [ev]
    clear ev
    go_quiet (fail)
    go_wp2
    go_ret
    exact ⟨v, rfl, hv, Cu.mk' (i := i) (h := h2) hi d0 d1 d2 d3 d4.out HBy.out hlt ((F1.out.drewN _).drewN _) hn⟩
set_option maxRecDepth 100000 in
set_option maxHeartbeats 3200000 in
/-- A number below a small bound. -/
theorem l1Below_s (hc : Cu w q A n c) {k : Nat} (hk : 0 < k) (hk2 : k ≤ 256) :
    Calls Try.prog 54 #[.pointer (some ⟨q, 0, none⟩), .int .i64 k] w fun e w' => ∃ v : Nat, e = .returned (.int .i64 v) ∧ v < k ∧ Dr w q A n c w' := by
  have K := Lib.hid (l1Byte_s hc)
  have i1 : ¬ ((k : Int) ≤ 0) := by omega
  have i2 : (0 : Int) < (k : Int) := by omega
  have i3 : (k : Int) ≤ 256 := by omega
  clear hc
  go_enter Try.func54, Try.ntmps54
  go_wp2_with fail
  refine K.out.mono ?_
  rintro e w1 ⟨v, rfl, hv, hd⟩
  have HD := Lib.hid hd
  clear hd K
  go_wp2
  go_ret
  exact ⟨v % k, by simp, Nat.mod_lt _ hk, HD.out⟩
set_option maxHeartbeats 1600000 in
theorem l1Once_s (hc : Cu w q A n c) {k : Nat} (hk : 0 < k) (hk2 : k ≤ 256) :
    Calls Try.prog 49 #[.pointer (some ⟨q, 0, none⟩), .int .i64 k] w fun e w' => ∃ b : Bool, e = .returned (.bool b) ∧ Dr w q A n c w' := by
  have K := Lib.hid (l1Below_s hc hk hk2)
  clear hc
  go_enter Try.func49, Try.ntmps49
  go_wp2_with fail
  refine K.out.mono ?_
  rintro e w1 ⟨v, rfl, hv, hd⟩
  have HD := Lib.hid hd
  clear hd K
  by_cases h0 : v = 0
  · subst h0
    go_wp2
    go_ret
    exact ⟨true, rfl, HD.out⟩
  · have i1 : ((v : Int) == 0) = false := by simp; omega
    go_wp2
    go_ret
    exact ⟨false, rfl, HD.out⟩
/-- A list of numbers in a block beside the cursor. -/
structure LC (w : World) (g m : Nat) : Prop where
  at_ : ∀ j, j < m → ∃ z : Int, w.cell? ⟨g, j, none⟩ = some (.int .i64 z)
theorem LC.keep {g m a b : Nat} (h : LC w g m) (hg : g < w.heap.size) (hf : Fr a b w w') (ho : g < a ∨ b ≤ g) : LC w' g m := ⟨fun j hj => (h.at_ j hj).imp fun _ hz => (hf.cell (p := ⟨g, j, none⟩) hg ho).trans hz⟩
set_option maxRecDepth 100000 in
set_option maxHeartbeats 1600000 in
theorem l1PickInt_s (hc : Cu w q A n c) {g m k : Nat} (hl : LC w g m) (hg : q < g) (hgw : g < w.heap.size) (hm : 0 < m) (hm2 : m ≤ 256) :
    Calls Try.prog 69 #[.pointer (some ⟨q, 0, none⟩), .slice (some ⟨g, 0, none⟩) m k] w fun e w' => ∃ z : Int, e = .returned (.int .i64 z) ∧ Dr w q A n c w' := by
  have K := Lib.hid (l1Below_s hc hm hm2)
  have HL := Lib.hid hl
  clear hc hl
  go_enter Try.func69, Try.ntmps69
  go_wp2_with fail
  refine K.out.mono ?_
  rintro e w1 ⟨v, rfl, hv, hd⟩
  have HD := Lib.hid hd
  obtain ⟨z, hz⟩ := (HL.out.keep hgw hd.fr (.inr (by omega))).at_ v hv
  have i1 : (v : Int) < (m : Int) := by omega
  clear hd K
  go_wp2
  go_ret
  exact ⟨z, rfl, HD.out⟩
/-- A list of texts in a block beside the cursor. -/
structure LT (w : World) (g m : Nat) (P : ByteArray → Prop) : Prop where
  at_ : ∀ j, j < m → ∃ t : ByteArray, P t ∧ w.cell? ⟨g, j, none⟩ = some (.string t)
theorem LT.keep {g m a b : Nat} {P : ByteArray → Prop} (h : LT w g m P) (hg : g < w.heap.size) (hf : Fr a b w w') (ho : g < a ∨ b ≤ g) : LT w' g m P := ⟨fun j hj => (h.at_ j hj).imp fun _ hz => ⟨hz.1, (hf.cell (p := ⟨g, j, none⟩) hg ho).trans hz.2⟩⟩
set_option maxRecDepth 100000 in
set_option maxHeartbeats 1600000 in
theorem l1Pick_s (hc : Cu w q A n c) {g m k : Nat} {P : ByteArray → Prop} (hl : LT w g m P) (hg : q < g) (hgw : g < w.heap.size) (hm : 0 < m) (hm2 : m ≤ 256) :
    Calls Try.prog 81 #[.pointer (some ⟨q, 0, none⟩), .slice (some ⟨g, 0, none⟩) m k] w fun e w' => ∃ t : ByteArray, e = .returned (.string t) ∧ P t ∧ Dr w q A n c w' := by
  have K := Lib.hid (l1Below_s hc hm hm2)
  have HL := Lib.hid hl
  clear hc hl
  go_enter Try.func81, Try.ntmps81
  go_wp2_with fail
  refine K.out.mono ?_
  rintro e w1 ⟨v, rfl, hv, hd⟩
  have HD := Lib.hid hd
  obtain ⟨z, hp, hz⟩ := (HL.out.keep hgw hd.fr (.inr (by omega))).at_ v hv
  have HP := Lib.hid hp
  have i1 : (v : Int) < (m : Int) := by omega
  clear hd K hp
  go_wp2
  go_ret
  exact ⟨z, rfl, HP.out, HD.out⟩
end
end Go.Proofs.Ytncjfgebolikoaa
