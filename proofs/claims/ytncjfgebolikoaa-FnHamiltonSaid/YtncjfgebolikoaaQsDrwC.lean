/-
  Contracts: graphs that are drawn with the cursor (the reference's l2Random).
-/
import Derived.Test.YtncjfgebolikoaaQsDrwB
namespace Go.Proofs.Ytncjfgebolikoaa
open Go.RowKit

section
variable {w wr w2 w5 : World} {q nb cb Q lo n : Nat} {A : Option Addr}
theorem Fr.past {a b : Nat} (h : Fr q (q + 1) w wr) (k : Fr a b wr w2) (ha : w.heap.size ≤ a) : Fr q (q + 1) w w2 :=
  ⟨k.os.trans h.os, k.tape.trans h.tape, k.output.trans h.output, Nat.le_trans h.size k.size, fun j hj ho => (k.block j (Nat.lt_of_lt_of_le hj h.size) (.inl (by omega))).trans (h.block j hj ho)⟩
theorem Cu.keepF {a b : Nat} (h : Cu wr q A nb cb) (hf : Fr a b wr w2) (ho : q < a) : Cu w2 q A nb cb := by
  obtain ⟨i, k, hi, h0, h1, h2⟩ := h.ex
  have hl := h.lt
  exact ⟨⟨i, k, hi, frC_ hf h0 hl (.inl ho), frC_ hf h1 hl (.inl ho), frC_ hf h2 hl (.inl ho)⟩, frZ_ hf h.f1 hl (.inl ho), frZ_ hf h.f2 hl (.inl ho), h.by_.keepF hf (by omega) (by omega), h.le⟩
/-- Underway in a draw: the cursor, what was there before, a graph under way, the box of the result. -/
structure DS (w wr : World) (q : Nat) (A : Option Addr) (nb cb Q lo n : Nat) : Prop where
  cu : Cu wr q A nb cb
  fr : Fr q (q + 1) w wr
  gu : GU wr Q lo n
  d : GC wr w.heap.size 0 none 0 0
  l1 : q < w.heap.size
  l2 : w.heap.size < lo
  l3 : lo ≤ Q
theorem DS.keep (h : DS w wr q A nb cb Q lo n) (hb : Below wr.heap.size wr w2) : DS w w2 q A nb cb Q lo n := ⟨h.cu.keep hb, h.fr.trans (Fr.of_below hb), h.gu.keep hb, h.d.keep hb, h.l1, h.l2, h.l3⟩
theorem DS.draw (h : DS w wr q A nb cb Q lo n) (hd : Dr wr q A nb cb w2) : DS w w2 q A nb cb Q lo n := by
  have h1 := h.l1
  have h2 := h.l2
  have h3 := h.l3
  exact ⟨hd.cu, h.fr.trans hd.fr, h.gu.keepF hd.fr (by omega) (by omega), h.d.keepF hd.fr (.inr (by omega)), h1, h2, h3⟩
theorem DS.set {B : Option Addr} {d : Nat} {x : Nat → Int} (h : DS w wr q A nb cb Q lo n) (hb : Below wr.heap.size wr w5) (ho : Own w5 (Q + 1) w5.heap.size 3 1 B n d (fun j => .int .i64 (x j))) : DS w ((w5.setCell ⟨Q, 0, none⟩ (.int .i64 n)).setCell ⟨Q, 1, none⟩ (.slice B n d)) q A nb cb Q lo n := by
  have h1 := h.l1
  have h2 := h.l2
  have h3 := h.l3
  obtain ⟨A1, c1, x1, g1, _, _⟩ := h.gu.ex
  have hf := fr2 w5 Q (.int .i64 n) (.slice B n d)
  exact ⟨(h.cu.keep hb).keepF hf (by omega), (h.fr.trans (Fr.of_below hb)).past hf (by omega), GU.set (g1.keep hb) ho h3, (h.d.keep hb).keepF hf (.inl (by omega)), h1, h2, h3⟩
/-- A drawn graph of the call's own. -/
def dgQ (w : World) (q : Nat) (A : Option Addr) (nb cb : Nat) (e : Ending) (w' : World) : Prop :=
  ∃ (sz : Int) (B : Option Addr) (m d : Nat) (x : Nat → Int), e = .returned (.agg #[.int .i64 sz, .slice B m d]) ∧ 1 ≤ m ∧ m ≤ 7 ∧ Own w' w.heap.size w'.heap.size 3 1 B m d (fun j => .int .i64 (x j)) ∧ Dr w q A nb cb w'
theorem dgQ.fin {B : Option Addr} {d : Nat} {x : Nat → Int} (hn1 : 1 ≤ n) (hn7 : n ≤ 7) (h : DS w wr q A nb cb Q lo n) (ho : Own wr lo wr.heap.size 3 1 B n d (fun j => .int .i64 (x j))) : dgQ w q A nb cb (.returned (.agg #[.int .i64 n, .slice B n d])) ((wr.setCell ⟨w.heap.size, 0, none⟩ (.int .i64 n)).setCell ⟨w.heap.size, 1, none⟩ (.slice B n d)) := by
  have h1 := h.l1
  have h2 := h.l2
  have hf := fr2 wr w.heap.size (.int .i64 n) (.slice B n d)
  exact ⟨n, B, n, d, x, rfl, hn1, hn7, (ho.keep hf (.inr (by omega))).mono (by omega) hf.size, h.cu.keepF hf (by omega), h.fr.past hf (Nat.le_refl _)⟩
set_option maxRecDepth 100000 in
set_option maxHeartbeats 6400000 in
theorem l2Random_s {k : Nat} (hc : Cu w q A nb cb) (hn1 : 1 ≤ n) (hn7 : n ≤ 7) :
    Calls Try.prog 82 #[.pointer (some ⟨q, 0, none⟩), .int .i64 n, .int .i64 k] w (dgQ w q A nb cb) := by
  obtain ⟨W, hW⟩ : ∃ W : World, W = (w.alloc (Obj.cells #[Value.int IntKind.i64 0, Value.slice none 0 0] 26)) := ⟨_, rfl⟩
  have hB : Below w.heap.size w W := by rw [hW]; exact (Below.refl _ _).alloc (Nat.le_refl _) _
  have hD : GC W w.heap.size 0 none 0 0 := by rw [hW]; exact GC.new _ _ _ _ _
  have hsW : w.heap.size < W.heap.size := hD.lt
  obtain ⟨W2, hmk, hO2, hb2⟩ := made_own W n (by omega)
  have hs2 : W.heap.size < W2.heap.size := by
    obtain ⟨g', e, _, _, hlt, _⟩ := hO2.at_ (by omega)
    simp only [Option.some.injEq, Addr.mk.injEq, and_true] at e
    omega
  obtain ⟨W3, hW3⟩ : ∃ W3 : World, W3 = W2.alloc (Obj.cells #[.int .i64 n, .slice (some ⟨W.heap.size, 0, none⟩) n n] 26) := ⟨_, rfl⟩
  have hb3 : Below W.heap.size W W3 := by rw [hW3]; exact hb2.alloc hb2.size _
  have hB3 : Below w.heap.size w W3 := hB.trans (hb3.mono (Nat.le_of_lt hsW))
  have HS : Hid (DS w W3 q A nb cb W2.heap.size W.heap.size n) := by
    refine ⟨hc.keep hB3, Fr.of_below hB3, ?_, hD.keep hb3, hc.lt, hsW, Nat.le_of_lt hs2⟩
    rw [hW3]
    refine ⟨some ⟨W.heap.size, 0, none⟩, n, fun _ => 0, GC.new _ _ _ _ _, (hO2.alloc _).mono (Nat.le_refl _) (by simp; omega), fun e => ?_⟩
    simp only [Option.some.injEq, Addr.mk.injEq, and_true] at e
    omega
  have HW := Lib.hid hW
  have HW3 := Lib.hid hW3
  have hl1 := hc.lt
  clear hW hW3 hB hD hO2 hb2 hb3 hB3 hc
  go_enter Try.func82, Try.ntmps82
  go_wp2_with fail
  rw [← HW.out, hmk]
  clear HW
  go_simp
  go_wp2
  rw [← HW3.out]
  clear HW3 hmk
  go_loopw [8] (fun iv wr => ∃ v : Nat, v ≤ n ∧ iv = .int .i64 v ∧ Hid (DS w wr q A nb cb W2.heap.size W.heap.size n)) (fun iv _ => n - (intOf iv).toNat)
  case atStart => exact ⟨0, Nat.zero_le _, rfl, HS⟩
  case round =>
    clear HS
    obtain ⟨v, hv, rfl, HSr⟩ := hrel
    by_cases hvn : v < n
    · have i1 : (v : Int) < (n : Int) := by omega
      go_wp2
      go_loopw [9] (fun iv wz => ∃ u : Nat, v < u ∧ u ≤ n ∧ iv = .int .i64 u ∧ Hid (DS w wz q A nb cb W2.heap.size W.heap.size n)) (fun iv _ => n - (intOf iv).toNat)
      case atStart => exact ⟨v + 1, by omega, by omega, by go_num, HSr⟩
      case round =>
        clear HSr
        obtain ⟨u, hvu, hu, rfl, HSz⟩ := hrel
        by_cases hun : u < n
        · have i2 : (u : Int) < (n : Int) := by omega
          have KB := Lib.hid (l1Below_s (k := 10) HSz.out.cu (by omega) (by omega))
          go_wp2_with fail
          refine KB.out.mono ?_
          rintro e w4 ⟨x, rfl, hx, hd⟩
          have HS4 := Lib.hid (HSz.out.draw hd)
          obtain ⟨A1, c1, x1, hg1, ho1, hne⟩ := HS4.out.gu.ex
          have HG1 := Lib.hid hg1
          have hz1 : W2.heap.size < w4.heap.size := hg1.lt
          have e0 := hg1.c0
          have e1 := hg1.c1
          have KA : Hid (Calls Try.prog 72 #[.agg #[.int .i64 n, .slice A1 n c1], .int .i64 v, .int .i64 u] w4 _) := AddEdge_s (n : Int) A1 n c1 x1 v u w4 w4.heap.size ho1.rd (Nat.le_refl _) (by omega)
          clear hg1 ho1 hne hd KB HSz
          by_cases hxk : x < k
          · have i3 : (x : Int) < (k : Int) := by omega
            go_wp2_with ((go_at_call 72; (with_reducible refine KA.out.mono ?_); rintro e w5 ⟨A5, c5, rfl, hO5, hb5⟩; have hn5 := HG1.out.keep hb5; have n0 := hn5.c0; have n1 := hn5.c1; have n2 := hn5.f0; have n3 := hn5.f1))
            have HS6 : Hid (DS w ((w5.setCell ⟨W2.heap.size, 0, none⟩ (.int .i64 n)).setCell ⟨W2.heap.size, 1, none⟩ (.slice A5 n c5)) q A nb cb W2.heap.size W.heap.size n) := HS4.out.set hb5 (hO5.mono (by omega) (Nat.le_refl _))
            clear hO5 hb5 hn5 n0 n1 n2 n3
            go_roundw
            case rel => exact ⟨u + 1, by omega, by omega, by go_num, HS6⟩
            case measure => (simp [intOf] <;> omega)
          · have i3 : (k : Int) ≤ (x : Int) := by omega
            go_wp2
            go_roundw
            case rel => exact ⟨u + 1, by omega, by omega, by go_num, HS4⟩
            case measure => (simp [intOf] <;> omega)
        · obtain rfl : u = n := by omega
          have i2 : (u : Int) ≤ (u : Int) := Int.le_refl _
          go_wp2
          go_roundw
          case rel => exact ⟨v + 1, by omega, by go_num, HSz⟩
          case measure => (simp [intOf] <;> omega)
    · obtain rfl : v = n := by omega
      have i1 : (v : Int) ≤ (v : Int) := Int.le_refl _
      have d0 := HSr.out.d.c0
      have d1 := HSr.out.d.c1
      have d2 := HSr.out.d.f0
      have d3 := HSr.out.d.f1
      obtain ⟨A1, c1, x1, hg1, ho1, hne⟩ := HSr.out.gu.ex
      have e0 := hg1.c0
      have e1 := hg1.c1
      have HF := Lib.hid (dgQ.fin hn1 hn7 HSr.out ho1)
      clear hg1 ho1 hne
      go_wp2
      exact bodyPost_ret (v := .agg #[.int .i64 v, .slice A1 v c1]) (by simp [results, Try.results82, go_sem, *]) rfl HF.out
end
end Go.Proofs.Ytncjfgebolikoaa
