/-
  Several texts in one.
-/
import Derived.Test.YtppkokgiojcgbaaGreatDoorQyGB
import Derived.Test.YtppkokgiojcgbaaGreatDoorRows
import Derived.Test.YtppkokgiojcgbaaGreatDoorQyGA
import Derived.Deep.RegionHeld3
import Derived.Deep.QuietTactic
import Derived.BigQuiet
import Derived.ProofKit
import Derived.OpenShut
import Derived.ShutString
import Derived.Lib.SmallJoins
import Derived.Carry
import Derived.Deep.Slices
import Derived.Deep.Fields
import Derived.ChangeSame
/-
  Several texts in one: words for memory, plain laws and contracts that the later texts lean on.
-/
/-
  Contracts of the law's helpers on slices of edits.
-/
namespace Go.Proofs.YtppkokgiojcgbaaGreatDoor
open Go.RowKit

theorem szEditS_max (A : Option Addr) (n c : Nat) (left : Int) (w : World) (hn : n ≤ maxLen) (h0 : 0 ≤ left) (h1 : left ≤ 1048576) :
    Calls Tryz.prog 7 #[.slice A n c, .int .i64 left] w fun e w' => e = .returned (.int .i64 (szl left n)) ∧ w = w' := by
  unfold maxLen at hn
  by_cases h : left < n
  · have h' : left - n < 0 := by omega
    go_enter Tryz.func7, Tryz.ntmps7
    go_wp2
    go_ret
    exact ⟨ret_int (by unfold szl; rw [if_pos (by omega)]), rfl⟩
  · have h' : 0 ≤ left - n := by omega
    go_enter Tryz.func7, Tryz.ntmps7
    go_wp2
    go_ret
    exact ⟨ret_int (by unfold szl; rw [if_neg (by omega)]), rfl⟩

set_option maxHeartbeats 400000 in
theorem toEdit_any (a : Bool) (v u : Int) (w : World) :
    Calls Tryz.prog 42 #[.agg #[.bool a, .int .i64 v, .int .i64 u]] w fun e w' => e = .returned (.agg #[.bool a, .int .i64 v, .int .i64 u]) ∧ Below w.heap.size w w' := by
  go_enter Tryz.func42, Tryz.ntmps42
  go_wp2
  exact bodyPost_ret (v := .agg #[.bool a, .int .i64 v, .int .i64 u]) (by simp [results, Tryz.results42, go_sem]) rfl ⟨rfl, (((Below.refl _ _).alloc (Nat.le_refl _) _).alloc (by simp) _).alloc (by simp; omega) _⟩

set_option maxHeartbeats 400000 in
theorem eqEdit_yes (a : Bool) (v u : Int) (w : World) :
    Calls Tryz.prog 45 #[.agg #[.bool a, .int .i64 v, .int .i64 u], .agg #[.bool a, .int .i64 v, .int .i64 u]] w fun e w' => e = .returned (.bool true) ∧ Below w.heap.size w w' := by
  go_enter Tryz.func45, Tryz.ntmps45
  go_wp2
  go_ret
  exact ⟨rfl, ((Below.refl _ _).alloc (Nat.le_refl _) _).alloc (by simp) _⟩

set_option maxHeartbeats 400000 in
theorem eqEditS_yes (A1 A2 : Option Addr) (n c1 c2 : Nat) (a : Nat → Bool) (v u : Nat → Int) (w : World) (B1 B2 : Nat) (h1 : RdE w B1 A1 n c1 a v u) (h2 : RdE w B2 A2 n c2 a v u) (hB1 : B1 ≤ w.heap.size) (hB2 : B2 ≤ w.heap.size) (hn : n ≤ 1073741824) :
    Calls Tryz.prog 13 #[.slice A1 n c1, .slice A2 n c2] w fun e w' => e = .returned (.bool true) ∧ Below w.heap.size w w' := by
  go_enter Tryz.func13, Tryz.ntmps13
  go_wp2
  go_loopw [5] (fun i wr => ∃ k : Nat, k ≤ n ∧ i = .int .i64 k ∧ Below w.heap.size w wr) (fun i _ => n - (intOf i).toNat)
  case atStart => exact ⟨0, Nat.zero_le _, rfl, Below.refl _ _⟩
  case round =>
    obtain ⟨k, hk, rfl, hbr⟩ := hrel
    by_cases hlt : k < n
    · obtain ⟨b1, o1, rfl, l1, c1'⟩ := h1.2 (by omega)
      obtain ⟨b2, o2, rfl, l2, c2'⟩ := h2.2 (by omega)
      obtain ⟨p0, p1, p2⟩ := c1' k hlt
      obtain ⟨q0, q1, q2⟩ := c2' k hlt
      have f0 := (hbr.cell (p := ⟨b1, _, none⟩) (by show b1 < _; omega)).trans p0
      have f1 := (hbr.cell (p := ⟨b1, _, none⟩) (by show b1 < _; omega)).trans p1
      have f2 := (hbr.cell (p := ⟨b1, _, none⟩) (by show b1 < _; omega)).trans p2
      have g0 := (hbr.cell (p := ⟨b2, _, none⟩) (by show b2 < _; omega)).trans q0
      have g1 := (hbr.cell (p := ⟨b2, _, none⟩) (by show b2 < _; omega)).trans q1
      have g2 := (hbr.cell (p := ⟨b2, _, none⟩) (by show b2 < _; omega)).trans q2
      have i1 : (k : Int) < (n : Int) := by omega
      have hz := hbr.size
      clear c1' c2' h1 h2 p0 p1 p2 q0 q1 q2
      go_wp2_with fail
      go_region_held3 (fun z => z.cell? ⟨b1, o1 + k * 3, none⟩ = some (.bool (a k)) ∧ z.cell? ⟨b1, o1 + k * 3 + 1, none⟩ = some (.int .i64 (v k)) ∧ z.cell? ⟨b1, o1 + k * 3 + 2, none⟩ = some (.int .i64 (u k)) ∧ z.cell? ⟨b2, o2 + k * 3, none⟩ = some (.bool (a k)) ∧ z.cell? ⟨b2, o2 + k * 3 + 1, none⟩ = some (.int .i64 (v k)) ∧ z.cell? ⟨b2, o2 + k * 3 + 2, none⟩ = some (.int .i64 (u k)))
        (first | (refine ⟨?_, ?_, ?_, ?_, ?_, ?_⟩ <;> assumption) | go_keep | (refine ⟨?_, ?_, ?_, ?_, ?_, ?_⟩ <;> (refine (hb.cell (by first | (show b1 < wr.heap.size; omega) | (show b2 < wr.heap.size; omega))).trans ?_; go_keep)))
        ((go_at_call 45; (refine (eqEdit_yes (a k) (v k) (u k) _).mono ?_); rintro e w1 ⟨rfl, hb⟩))
      have HB := Lib.hid (hbr.drew.trans (hb.mono hbr.size))
      clear f0 f1 f2 g0 g1 g2 hb hbr
      go_wp2
      go_roundw
      case rel => exact ⟨k + 1, by omega, by go_num, HB.out⟩
      case measure => simp [intOf]; omega
    · have hge : (n : Int) ≤ (k : Int) := by omega
      have HB := Lib.hid hbr
      clear hbr h1 h2
      go_wp2
      go_ret
      exact ⟨rfl, HB.out⟩

theorem run_make_rowN {P : Program} (t e : TypeId) (z : Value) (size bytes : Nat) (ht : P.underlying t = some (.slice e)) (hinfo : (P.info? e).map (fun i => (i.zero, i.size, i.bytes)) = some (some z, size, bytes))
    (n : Nat) (hbytes : bytes * n ≤ 281474976710656) (h63 : n ≤ 9223372036854775807) (w : World) :
    (Instr.makeSlice t (.int .i64 (n : Int)) (.int .i64 (n : Int))).run P w = .ok (.slice (some ⟨w.heap.size, 0, none⟩) n n) (w.alloc (.cells (madeCells z.cells (n * size)) e)) := by
  obtain ⟨i, hi, hzz⟩ := Option.map_eq_some_iff.1 hinfo
  simp only [Prod.mk.injEq] at hzz
  obtain ⟨hz, hs, hby⟩ := hzz
  have hb : (i.bytes : Int) * (n : Int) ≤ 281474976710656 := by
    have h : ((i.bytes * n : Nat) : Int) ≤ 281474976710656 := by rw [hby]; omega
    rwa [Int.natCast_mul] at h
  have hr := run_make (P := P) w t e i z ht hi hz .i64 .i64 n n (by omega) (by omega) hb (by omega)
  simp only [Int.toNat_natCast] at hr
  rw [hs] at hr
  exact hr

/-- What the copy holds behind k rounds. -/
def cpe (a : Nat → Bool) (v u : Nat → Int) (i : Nat) : Nat → Value := eds (fun j => if j < i then a j else false) (fun j => if j < i then v j else 0) (fun j => if j < i then u j else 0)
theorem cpe_succ (a : Nat → Bool) (v u : Nat → Int) (i : Nat) : (fun j => if j = i * 3 + 2 then Value.int .i64 (u i) else (fun j => if j = i * 3 + 1 then Value.int .i64 (v i) else (fun j => if j = i * 3 then Value.bool (a i) else cpe a v u i j) j) j) = cpe a v u (i + 1) := by
  funext j
  have hd : j = j / 3 * 3 ∨ j = j / 3 * 3 + 1 ∨ j = j / 3 * 3 + 2 := by omega
  generalize j / 3 = q at hd
  unfold cpe
  rcases hd with rfl | rfl | rfl
  · rw [if_neg (by omega)]; simp only [eds0]
    rw [if_neg (by omega)]
    by_cases h : q = i
    · subst h; simp
    · rw [if_neg (by omega)]
      by_cases h2 : q < i
      · rw [if_pos h2, if_pos (by omega)]
      · rw [if_neg h2, if_neg (by omega)]
  · rw [if_neg (by omega)]; simp only [eds1]
    by_cases h : q = i
    · subst h; simp
    · rw [if_neg (by omega), if_neg (by omega)]
      by_cases h2 : q < i
      · rw [if_pos h2, if_pos (by omega)]
      · rw [if_neg h2, if_neg (by omega)]
  · simp only [eds2]
    by_cases h : q = i
    · subst h; simp
    · rw [if_neg (by omega), if_neg (by omega), if_neg (by omega)]
      by_cases h2 : q < i
      · rw [if_pos h2, if_pos (by omega)]
      · rw [if_neg h2, if_neg (by omega)]

set_option maxHeartbeats 1000000 in
theorem toEditS_any (A : Option Addr) (n c : Nat) (a : Nat → Bool) (v u : Nat → Int) (w : World) (B : Nat) (h : RdE w B A n c a v u) (hB : B ≤ w.heap.size) (hn : n ≤ 1048576) :
    Calls Tryz.prog 10 #[.slice A n c] w fun e w' => ∃ g, w.heap.size ≤ g ∧ e = .returned (.slice (some ⟨g, 0, none⟩) n n) ∧ Own w' w.heap.size w'.heap.size 59 3 (some ⟨g, 0, none⟩) n n (eds a v u) ∧ Below w.heap.size w w' := by
  have hmk := fun W => run_make_rowN (P := Tryz.prog) 31 59 (.agg #[.bool false, .int .i64 0, .int .i64 0]) 3 24 Tryz.underlying31 info_edit n (by omega) (by omega) W
  go_enter Tryz.func10, Tryz.ntmps10
  go_wp2
  clear hmk
  go_loopw [4] (fun i wr => ∃ j : Nat, j ≤ n ∧ i = .int .i64 j ∧ Own wr w.heap.size (w.heap.size + 1) 59 3 (some ⟨w.heap.size, 0, none⟩) n n (cpe a v u j) ∧ Below w.heap.size w wr ∧ w.heap.size < wr.heap.size) (fun i _ => n - (intOf i).toNat)
  case atStart =>
    refine ⟨0, Nat.zero_le _, rfl, ?_, (Below.refl _ _).alloc (Nat.le_refl _) _, by simp⟩
    refine .inr ⟨_, _, rfl, Nat.le_refl _, Nat.lt_succ_self _, heap_alloc_new w _, Nat.le_refl _, by unfold maxLen; omega, size_madeCells _ _, fun j hj => ?_⟩
    have hm : j % 3 = 0 ∨ j % 3 = 1 ∨ j % 3 = 2 := by omega
    rcases hm with h0 | h0 | h0 <;> simp [madeCells, hj, cpe, eds, h0]
  case round =>
    obtain ⟨j, hj, rfl, hown, hbr, hz⟩ := hrel
    by_cases hlt : j < n
    · obtain ⟨b, o, rfl, l, hc⟩ := h.2 (by omega)
      obtain ⟨p0, p1, p2⟩ := hc j hlt
      have f0 := (hbr.cell (p := ⟨b, _, none⟩) (by show b < _; omega)).trans p0
      have f1 := (hbr.cell (p := ⟨b, _, none⟩) (by show b < _; omega)).trans p1
      have f2 := (hbr.cell (p := ⟨b, _, none⟩) (by show b < _; omega)).trans p2
      have HO := Lib.hid hown
      have hi : (j : Int) < (n : Int) := by omega
      clear hc h p0 p1 p2 hown
      go_wp2_with fail
      refine (toEdit_any (a j) (v j) (u j) wr).mono ?_
      rintro e w1 ⟨rfl, hb⟩
      have ho1 := HO.out.keepB hb (by omega)
      obtain ⟨g, e, g1, g2, g3, hc2, hf2⟩ := ho1.at_ (by omega)
      simp only [Option.some.injEq, Addr.mk.injEq, and_true] at e
      subst e
      have t0 := hc2 (j * 3) (by omega)
      have t1 := hc2 (j * 3 + 1) (by omega)
      have t2 := hc2 (j * 3 + 2) (by omega)
      have s0 := hf2 (j * 3)
      have s1 := hf2 (j * 3 + 1)
      have s2 := hf2 (j * 3 + 2)
      have hs := ((ho1.set_ (j * 3) (.bool (a j))).set_ (j * 3 + 1) (.int .i64 (v j))).set_ (j * 3 + 2) (.int .i64 (u j))
      rw [cpe_succ] at hs
      have hb' := (((hbr.trans (hb.mono hbr.size)).setCell (p := ⟨w.heap.size, j * 3, none⟩) (Nat.le_refl _) (.bool (a j))).setCell (p := ⟨w.heap.size, j * 3 + 1, none⟩) (Nat.le_refl _) (.int .i64 (v j))).setCell (p := ⟨w.heap.size, j * 3 + 2, none⟩) (Nat.le_refl _) (.int .i64 (u j))
      have H1 := Lib.hid hs
      have H2 := Lib.hid hb'
      have hz1 := hb.size
      have hz2 : w.heap.size < w1.heap.size := by omega
      clear hc2 hf2 hs hb' hbr hb ho1 HO f0 f1 f2
      go_wp2
      go_roundw
      case rel => exact ⟨j + 1, by omega, by go_num, H1.out, H2.out, by simpa [World.setCell] using hz2⟩
      case measure => simp [intOf]; omega
    · have hge : (n : Int) ≤ (j : Int) := by omega
      have H := Lib.hid hown
      have Hb := Lib.hid hbr
      clear hown hbr h
      go_wp2
      go_ret
      refine ⟨w.heap.size, Nat.le_refl _, rfl, ?_, Hb.out⟩
      have h1 := (H.out.congr (y := eds a v u) (fun i hi => by
        unfold cpe eds
        have : i / 3 < j := by omega
        simp only [this, if_true])).lt
      exact h1.mono (Nat.le_refl _) (Nat.min_le_right _ _)

end Go.Proofs.YtppkokgiojcgbaaGreatDoor

/-
  Contracts of the law's helpers on slices of at most nine strings.
-/
namespace Go.Proofs.YtppkokgiojcgbaaGreatDoor
open Go.RowKit

theorem info_string : (Tryz.prog.info? 9).map (fun i => (i.zero, i.size, i.bytes)) = some (some (.string ⟨#[]⟩), 1, 16) := by kernel_rfl

theorem conv1 (W : World) (d : Int) : (convert 38 9 (.slice (some ⟨W.heap.size, 0, none⟩) 1 1)).run Tryz.prog (W.alloc (Obj.cells #[Value.int .u8 d] 5)) = .ok (.string ⟨#[UInt8.ofNat d.toNat]⟩) (W.alloc (Obj.cells #[Value.int .u8 d] 5)) := by
  have h := run_convert_bytes_arg (P := Tryz.prog) (W.alloc (Obj.cells #[Value.int .u8 d] 5)) 38 5 Tryz.underlying38 Tryz.underlying5 W.heap.size 0 1 1 [d] rfl (fun i hi => by
    obtain rfl : i = 0 := by omega
    simp [go_sem]) 9 Tryz.underlying9
  rw [h]
  rfl

end Go.Proofs.YtppkokgiojcgbaaGreatDoor

/-
  How the laws' arguments read: slices of integers, graphs, integers, strings.
-/
namespace Go.Proofs.YtppkokgiojcgbaaGreatDoor
open Go.ChangeShapes Go.WideShapes Go.ChangeAt Go.RowKit

theorem own : ownKnob Tryz.prog.godebug = none := by kernel_rfl
theorem laidOut : laidOutB Tryz.prog = true := by kernel_rfl

section
variable {H : Type} {enc : TypeId × Value → H} {w : World} {base : Nat} {spare : Nat → Bool} {held : Bool}

theorem rd_of_cells {a : Addr} {n c : Nat} {x : Nat → Int} (hl : n ≤ c) (hc : ∀ i, i < n → w.cell? (a.add i) = some (.int .i64 (x i))) : Rd w w.heap.size (some a) n c x := by
  refine ⟨hl, fun hn => ?_⟩
  obtain ⟨b, o, s⟩ := a
  have h0 := hc 0 hn
  have hs : s = none := by simpa [Addr.add] using World.cell?_spot h0
  subst hs
  have hadd : ∀ k, (⟨b, o, none⟩ : Addr).add k = ⟨b, o + k, none⟩ := fun k => by unfold Addr.add; split <;> simp_all
  refine ⟨b, o, rfl, ?_, fun k hk => by rw [← hadd]; exact hc k hk⟩
  have := World.block_lt_of_cell? w _ h0
  rw [hadd] at this
  exact this

theorem open_intS {fuel : Nat} {v : Value} {y : DataW H × List MemPlace} (h : DataW.trod enc Tryz.prog w base spare held fuel 22 [v] = some y) :
    ∃ A n c x, v = .slice A n c ∧ Rd w w.heap.size A n c x ∧ n ≤ maxLen := by
  rcases open_ints Tryz.underlying22 Tryz.underlying3 (by kernel_rfl) h with ⟨hcs, _⟩ | ⟨a, l, c, zs, hcs, _, hl, hm, hz, _, hcell, _⟩
  · simp only [List.cons.injEq, and_true] at hcs
    exact ⟨none, 0, 0, fun _ => 0, hcs, Rd.nil _ _ _ _ _, Nat.zero_le _⟩
  · simp only [List.cons.injEq, and_true] at hcs
    refine ⟨some a, l, c, fun i => zs.getD i 0, hcs, rd_of_cells hl (fun i hi => hcell i ?_), Nat.le_trans hl hm⟩
    rw [hz]; split <;> omega

set_option maxRecDepth 100000 in
theorem open_graph {r : Reach} {b0 : Nat} {v : Value} {d : DataW H} {p : List MemPlace} (hv : Value.okWide Tryz.prog w r b0 24 v)
    (h : DataW.Trod enc Tryz.prog w base spare held 24 v d p) :
    ∃ sz A n c x, v = .agg #[.int .i64 sz, .slice A n c] ∧ Rd w w.heap.size A n c x ∧ n ≤ maxLen := by
  obtain ⟨v0, v1, y0, y1, m, rfl, _, _, h0, h1⟩ := Go.Joins.open_agg2 Tryz.underlying24 (by kernel_rfl) (by kernel_rfl) hv h
  obtain ⟨sz, e0, _, _⟩ := DataW.trod_int Tryz.underlying3 h0
  simp only [List.cons.injEq, and_true] at e0
  subst e0
  obtain ⟨A, n, c, x, rfl, hr, hn⟩ := open_intS h1
  exact ⟨sz, A, n, c, x, rfl, hr, hn⟩

theorem places_lt {t : TypeId} {v : Value} {d : DataW H} {p : List MemPlace} (h : DataW.Trod enc Tryz.prog w base spare held t v d p) : ∀ x ∈ p, x.block < w.heap.size := by
  obtain ⟨m, hm⟩ := h
  exact DataW.trod_lt m _ _ _ hm
end
end Go.Proofs.YtppkokgiojcgbaaGreatDoor

/-
  How further arguments read (slices of edits); small laws that the generated walks use.
-/
namespace Go.Proofs.YtppkokgiojcgbaaGreatDoor
open Go.ChangeShapes Go.WideShapes Go.ChangeAt Go.RowKit Go.Deep

theorem bd {w w' : World} (h : Below w.drew.heap.size w.drew w') : Below w.heap.size w w' := ⟨h.os, h.tape, h.output, h.size, h.block⟩
section
variable {H : Type} {enc : TypeId × Value → H} {w : World} {base : Nat} {spare : Nat → Bool} {held : Bool}
theorem open_slice_fields {P : Program} {t e : TypeId} {fs : Array Field} {fuel : Nat} {cs : List Value} {x : DataW H × List MemPlace} (ht : P.underlying t = some (.slice e)) (he : P.underlying e = some (.struct fs))
    (hone : oneCellFields P fs = true) (hC : P.cellsOf e = fs.size) (h : DataW.trod enc P w base spare held fuel t cs = some x) :
    cs = [.slice none 0 0] ∨
    ∃ (a : Addr) (len cap : Nat), cs = [.slice (some a) len cap] ∧ len ≤ cap ∧ cap ≤ maxLen ∧
      ∀ i, i < len → ∀ (j : Nat) (f : Field), fs[j]? = some f → ∃ (n : Nat) (v : Value) (y : DataW H × List MemPlace), w.cell? (a.add (i * fs.size + j)) = some v ∧ DataW.trod enc P w base spare held n f.type [v] = some y := by
  rcases open_slice ht h with ⟨h0, _⟩ | ⟨a, len, cap, m, n, D, Pl, hcs, hb, hl, hm, hmm, hx, hi⟩
  · exact .inl h0
  · refine .inr ⟨a, len, cap, hcs, hl, hm, fun i him j f hj => ?_⟩
    obtain ⟨cs', hc, ht'⟩ := hi i (by rw [hmm]; split <;> omega)
    rw [hC] at hc
    obtain ⟨ys, n', hn', hy, hlen, hyl, hf⟩ := DataW.trod_struct he ht'
    obtain ⟨_, hcl, hat⟩ := World.cells?_some hc
    obtain ⟨ho, hk⟩ := hone_of hone j f hj
    have hjl : j < fs.size := (Array.getElem?_eq_some_iff.1 hj).1
    have hcell := hat j hjl
    have hv : cs'[j]? = some (cs'[j]'(by omega)) := List.getElem?_eq_getElem (by omega)
    have h1 := hf j f hj
    rw [ho, hk] at h1
    have hone' : (cs'.drop j).take 1 = [cs'[j]'(by omega)] := by
      rw [List.drop_eq_getElem_cons (by omega)]
      rfl
    rw [hone'] at h1
    have hys : ys[j]? = some (ys[j]'(by omega)) := List.getElem?_eq_getElem (by omega)
    refine ⟨_, _, _, ?_, h1.trans hys⟩
    rw [← Go.Deep.add_add, hcell, hv]

set_option maxRecDepth 100000 in
theorem open_edits {r : Reach} {b0 : Nat} {vv : Value} {d : DataW H} {p : List MemPlace} (hv : Value.okWide Tryz.prog w r b0 25 vv)
    (h : DataW.Trod enc Tryz.prog w base spare held 25 vv d p) :
    ∃ A n c a v u, vv = .slice A n c ∧ RdE w w.heap.size A n c a v u ∧ n ≤ maxLen := by
  obtain ⟨A0, n0, c0, rfl⟩ := okWide_slice Tryz.underlying25 hv
  obtain ⟨fuel, hf⟩ := h
  rcases open_slice_fields Tryz.underlying25 Tryz.underlying67 (by kernel_rfl) (by kernel_rfl) hf with h0 | ⟨ad, l, cp, hcs, hl, hm, hi⟩
  · simp [Value.cells] at h0
    obtain ⟨rfl, rfl, rfl⟩ := h0
    exact ⟨none, 0, 0, fun _ => false, fun _ => 0, fun _ => 0, rfl, ⟨Nat.le_refl _, fun h => absurd h (by omega)⟩, Nat.zero_le _⟩
  · simp [Value.cells] at hcs
    obtain ⟨rfl, rfl, rfl⟩ := hcs
    have hall : ∀ i, i < n0 → ∃ (q : Bool × Int × Int), w.cell? (ad.add (i * 3)) = some (.bool q.1) ∧ w.cell? (ad.add (i * 3 + 1)) = some (.int .i64 q.2.1) ∧ w.cell? (ad.add (i * 3 + 2)) = some (.int .i64 q.2.2) := by
      intro i hin
      obtain ⟨n1, v1, y1, c1, t1⟩ := hi i hin 0 _ rfl
      obtain ⟨n2, v2, y2, c2, t2⟩ := hi i hin 1 _ rfl
      obtain ⟨n3, v3, y3, c3, t3⟩ := hi i hin 2 _ rfl
      obtain ⟨q1, e1, _⟩ := DataW.trod_bool Tryz.underlying4 t1
      obtain ⟨q2, e2, _, _⟩ := DataW.trod_int Tryz.underlying3 t2
      obtain ⟨q3, e3, _, _⟩ := DataW.trod_int Tryz.underlying3 t3
      simp only [List.cons.injEq, and_true] at e1 e2 e3
      subst e1 e2 e3
      exact ⟨(q1, q2, q3), c1, c2, c3⟩
    obtain ⟨f, hff⟩ := choose_lt (n := n0) (p := fun i (q : Bool × Int × Int) => w.cell? (ad.add (i * 3)) = some (.bool q.1) ∧ w.cell? (ad.add (i * 3 + 1)) = some (.int .i64 q.2.1) ∧ w.cell? (ad.add (i * 3 + 2)) = some (.int .i64 q.2.2)) hall
    refine ⟨some ad, n0, c0, fun i => (f i).1, fun i => (f i).2.1, fun i => (f i).2.2, rfl, ⟨hl, fun hn => ?_⟩, Nat.le_trans hl hm⟩
    obtain ⟨b, o, s⟩ := ad
    have h0 := (hff 0 hn).1
    have hs : s = none := by simpa [Addr.add] using World.cell?_spot h0
    subst hs
    have hadd : ∀ k, (⟨b, o, none⟩ : Addr).add k = ⟨b, o + k, none⟩ := fun k => by unfold Addr.add; split <;> simp_all
    simp only [hadd] at hff h0
    exact ⟨b, o, rfl, World.block_lt_of_cell? w _ h0, fun k hk => hff k hk⟩
end
end Go.Proofs.YtppkokgiojcgbaaGreatDoor

/-
  Contract of the law's helper that asks whether a graph holds its marks.
-/
namespace Go.Proofs.YtppkokgiojcgbaaGreatDoor
open Go.RowKit

end Go.Proofs.YtppkokgiojcgbaaGreatDoor

/-
  How arguments read: slices of slices of integers; integers; strings.
-/
namespace Go.Proofs.YtppkokgiojcgbaaGreatDoor
open Go.ChangeShapes Go.WideShapes Go.ChangeAt Go.RowKit Go.Deep

section
variable {H : Type} {enc : TypeId × Value → H} {w : World} {base : Nat} {spare : Nat → Bool} {held : Bool}
end
end Go.Proofs.YtppkokgiojcgbaaGreatDoor

/-
  Contracts: a number of one digit as text: the reference's way. What a list of edits reads as.
-/
namespace Go.Proofs.YtppkokgiojcgbaaGreatDoor
open Go.RowKit

/-- The text of a digit. -/
def dgB (d : Nat) : ByteArray := ⟨#[UInt8.ofNat (48 + d)]⟩

set_option maxRecDepth 100000 in
set_option maxHeartbeats 2000000 in
theorem FormatInt_s1 (d : Nat) (hd : d < 10) (w : World) : Calls Tryz.prog 49 #[.int .i64 d] w fun e w' => e = .returned (.string (dgB d)) ∧ Below w.heap.size w w' := by
  have hc : d = 0 ∨ d = 1 ∨ d = 2 ∨ d = 3 ∨ d = 4 ∨ d = 5 ∨ d = 6 ∨ d = 7 ∨ d = 8 ∨ d = 9 := by omega
  clear hd
  have cv := conv1
  rcases hc with rfl | rfl | rfl | rfl | rfl | rfl | rfl | rfl | rfl | rfl
  · go_enter Tryz.func49, Tryz.ntmps49
    go_wp2
    go_ret
    exact ⟨rfl, Below.refl _ _⟩
  all_goals
    go_enter Tryz.func49, Tryz.ntmps49
    go_wp2
    refine wp_loop_rounds 2 ?_
    rw [rounds_succ]
    go_wp2
    rw [rounds_succ]
    go_wp2
    go_ret
    exact ⟨rfl, (Below.refl _ _).alloc (Nat.le_refl _) _⟩
end Go.Proofs.YtppkokgiojcgbaaGreatDoor
