/-
  Contract: a graph and a list of edges more, of the program.
-/
import Derived.Test.YtccblehcemggjaaAddAllP
import Derived.Test.YtccblehcemggjaaLawSS
namespace Go.Proofs.Ytccblehcemggjaa
open Go.RowKit

theorem drop_at {D : List Dsc} {k : Nat} {d : Dsc} (h : D[k]? = some d) : (lists D).drop k = d.2.2 :: (lists D).drop (k + 1) := by
  have h1 : (lists D)[k]? = some d.2.2 := by simp [lists, h]
  obtain ⟨hlt, he⟩ := List.getElem?_eq_some_iff.1 h1
  rw [List.drop_eq_getElem_cons hlt, he]
theorem two_of {l : List Int} (h : l.length = 2) : ∃ v u, l = [v, u] := by
  match l, h with
  | [v, u], _ => exact ⟨v, u, rfl⟩

set_option maxRecDepth 100000 in
set_option maxHeartbeats 1600000 in
theorem AddAll_i (s1 : Int) (A1 : Option Addr) (m1 c1 : Nat) (x1 : Nat → Int) (A2 : Option Addr) (c2 : Nat) (D : List Dsc) (w : World) (B : Nat) (h1 : Rd w B A1 m1 c1 x1) (h2 : RdD w B A2 c2 D) (hB : B ≤ w.heap.size) (hm1 : m1 ≤ 1048576) (hd : D.length ≤ 1048576) (ht : tot D ≤ 1048576) (L : List (List Int)) (hL : lists D = L) :
    Calls Try.prog 61 #[.agg #[.int .i64 s1, .slice A1 m1 c1], .slice A2 D.length c2] w fun e w' => ∃ A' c', e = .returned (.tuple #[.agg #[.int .i64 (aaZ s1 m1 x1 L), .slice A' (aaN s1 m1 x1 L) c'], .bool (aaB s1 m1 x1 L)]) ∧ Own w' w.heap.size w'.heap.size 3 1 A' (aaN s1 m1 x1 L) c' (fun j => .int .i64 (aaX s1 m1 x1 L j)) ∧ Below w.heap.size w w' := by
  subst hL
  obtain ⟨W, hW⟩ : ∃ W : World, W = ((w.alloc (Obj.cells #[Value.int IntKind.i64 s1, Value.slice A1 m1 c1] 42)).alloc (Obj.cells #[Value.int IntKind.i64 0, Value.slice none 0 0] 42)) := ⟨_, rfl⟩
  have HB : Hid (Below w.heap.size w W) := by rw [hW]; exact ((Below.refl _ _).alloc (Nat.le_refl _) _).alloc (by simp) _
  have HZ : Hid (w.heap.size + 2 = W.heap.size) := by rw [hW]; simp [Hid]
  have a0 : w.heap.size < W.heap.size := by have := HZ.out; omega
  have a1 : w.heap.size + 1 < W.heap.size := by have := HZ.out; omega
  have e0 : W.cell? ⟨w.heap.size, 0, none⟩ = some (.int .i64 s1) := by rw [hW]; simp [go_sem]
  have e1 : W.cell? ⟨w.heap.size, 1, none⟩ = some (.slice A1 m1 c1) := by rw [hW]; simp [go_sem]
  have e2 : W.cell? ⟨w.heap.size + 1, 0, none⟩ = some (.int .i64 0) := by rw [hW]; simp [go_sem]
  have e3 : W.cell? ⟨w.heap.size + 1, 1, none⟩ = some (.slice none 0 0) := by rw [hW]; simp [go_sem]
  have e4 : W.frozen? ⟨w.heap.size + 1, 0, none⟩ = false := by rw [hW]; simp [go_sem]
  have e5 : W.frozen? ⟨w.heap.size + 1, 1, none⟩ = false := by rw [hW]; simp [go_sem]
  have HK := Lib.hid (h1.keep (HB.out.mono hB) (Nat.le_refl _))
  have HD := Lib.hid (h2.keep (HB.out.mono hB) (Nat.le_refl _))
  have HW := Lib.hid hW
  clear hW h1 h2
  go_enter Try.func61, Try.ntmps61
  go_wp2_with fail
  rw [← HW.out]
  refine (IsGraph_any s1 A1 m1 c1 x1 W B HK.out (by omega) hm1).mono ?_
  rintro e w1 ⟨rfl, hb1⟩
  have f0 := up hb1 e0 a0
  have f1 := up hb1 e1 a0
  have f2 := up hb1 e2 a1
  have f3 := up hb1 e3 a1
  have f4 := upf hb1 e4 a1
  have f5 := upf hb1 e5 a1
  have z1 := hb1.size
  have b0 : w.heap.size < w1.heap.size := by omega
  have b1 : w.heap.size + 1 < w1.heap.size := by omega
  have HK1 : Hid (Rd w1 B A1 m1 c1 x1) := HK.out.keep (hb1.mono (by omega)) (Nat.le_refl _)
  have HD1 : Hid (RdD w1 B A2 c2 D) := HD.out.keep (hb1.mono (by omega)) (Nat.le_refl _)
  have HB1 : Hid (Below w.heap.size w w1) := HB.out.trans (hb1.mono (by omega))
  clear HW HB e0 e1 e2 e3 e4 e5 hb1 HK HD
  cases ho : okB s1 m1 x1
  · have hn : Hid (aaR s1 m1 x1 (lists D) = none) := aaR_no ho
    clear ho
    go_wp2
    have F : Fr (w.heap.size + 1) (w.heap.size + 2) w1 _ := ((Fr.refl _ _ w1).setCell (p := ⟨w.heap.size + 1, 0, none⟩) (Nat.le_refl _) (Nat.lt_succ_self _) (Value.int IntKind.i64 0)).setCell (p := ⟨w.heap.size + 1, 1, none⟩) (Nat.le_refl _) (Nat.lt_succ_self _) (Value.slice none 0 0)
    exact bodyPost_ret (v := .tuple #[.agg #[.int .i64 0, .slice none 0 0], .bool false]) (by simp [results, Try.results61, go_sem, *]) rfl ⟨none, 0, by rw [(aa_none hn.out).1, (aa_none hn.out).2.1, (aa_none hn.out).2.2], by rw [(aa_none hn.out).2.1]; exact Own.nil _ _ _ _ _ _, HB1.out.trans (F.below (by omega) (by omega))⟩
  · have hR : Hid (aaR s1 m1 x1 (lists D) = aaF s1 m1 (lists D) x1) := aaR_yes ho
    have Ho := Lib.hid ho
    have hpos : 0 < m1 := by obtain ⟨r, es, vg, _⟩ := okB_ok' ho; have := vg.n1; omega
    clear ho
    go_wp2_with fail
    refine (copyGraph_any s1 A1 m1 c1 x1 w1 B HK1.out (by omega) hm1).mono ?_
    rintro e w2 ⟨A', c', rfl, hO, hb2⟩
    have z2 := hb2.size
    have g2 := up hb2 f2 b1
    have g3 := up hb2 f3 b1
    have g4 := upf hb2 f4 b1
    have g5 := upf hb2 f5 b1
    have d1 : w.heap.size + 1 < w2.heap.size := by omega
    have HD2 : Hid (RdD w2 B A2 c2 D) := HD1.out.keep (hb2.mono (by omega)) (Nat.le_refl _)
    have HB2 : Hid (Below w.heap.size w w2) := HB1.out.trans (hb2.mono (by omega))
    have HO : Hid (Own w2 (w.heap.size + 2) w2.heap.size 3 1 A' m1 c' (fun j => .int .i64 (x1 j))) := hO.mono (by have := HZ.out; omega) (Nat.le_refl _)
    clear f0 f1 f2 f3 f4 f5 hO hb2 HK1 HD1 HB1 b0 b1
    go_wp2
    go_loopw [19] (fun i wr => ∃ (k : Nat) (A' : Option Addr) (c' : Nat) (y : Nat → Int), k ≤ D.length ∧ i = .int .i64 k ∧ wr.cell? ⟨w2.heap.size, 0, none⟩ = some (.int .i64 s1) ∧ wr.cell? ⟨w2.heap.size, 1, none⟩ = some (.slice A' m1 c') ∧ wr.frozen? ⟨w2.heap.size, 0, none⟩ = false ∧ wr.frozen? ⟨w2.heap.size, 1, none⟩ = false ∧ w2.heap.size < wr.heap.size ∧ Hid (Own wr (w.heap.size + 2) wr.heap.size 3 1 A' m1 c' (fun j => .int .i64 (y j))) ∧ Hid (okB s1 m1 y = true) ∧ Hid (aaR s1 m1 x1 (lists D) = aaF s1 m1 ((lists D).drop k) y) ∧ Hid (Below w2.heap.size w2 wr)) (fun i _ => D.length - (intOf i).toNat)
    case atStart => exact ⟨0, A', c', x1, Nat.zero_le _, rfl, by simp [go_sem], by simp [go_sem], by simp [go_sem], by simp [go_sem], by simp, (HO.out.alloc _).mono (Nat.le_refl _) (by simp), Ho, hR, (Below.refl _ _).alloc (Nat.le_refl _) _⟩
    case round =>
      obtain ⟨k, A4, c4, y, hk, rfl, i0, i1, i2, i3, i4, HY, Hy, HR, Hbr⟩ := hrel
      have j2 := up Hbr.out g2 d1
      have j3 := up Hbr.out g3 d1
      have j4 := upf Hbr.out g4 d1
      have j5 := upf Hbr.out g5 d1
      clear g2 g3 g4 g5
      by_cases hlt : k < D.length
      · obtain ⟨⟨Ad, cd, l⟩, hdk, hmem, hdv⟩ := dvs_at hlt
        obtain ⟨b, o, rfl, hb, hc⟩ := HD2.out.1.2 (by omega)
        have q0 := (Hbr.out.cell (p := ⟨b, o + k, none⟩) (by show b < _; omega)).trans (hc k hlt)
        rw [hdv] at q0
        have q1 : wr.cell? ⟨b, o + k, none⟩ = some (.slice Ad l.length cd) := q0
        have hrd : Rd wr wr.heap.size Ad l.length cd (fun i => l.getD i 0) := (HD2.out.2 (Ad, cd, l) hmem).keep (Hbr.out.mono (by omega)) (by omega)
        have hdr : (lists D).drop k = l :: (lists D).drop (k + 1) := drop_at hdk
        have i5 : (k : Int) < (D.length : Int) := by omega
        clear hc q0 hdv hmem
        by_cases hl2 : l.length = 2
        · obtain ⟨v, u, rfl⟩ := two_of hl2
          obtain ⟨bd, od, rfl, hbd, hcd⟩ := hrd.2 (by simp)
          have r0 : wr.cell? ⟨bd, od, none⟩ = some (.int .i64 v) := hcd 0 (by simp)
          have r1 : wr.cell? ⟨bd, od + 1, none⟩ = some (.int .i64 u) := hcd 1 (by simp)
          have q2 : wr.cell? ⟨b, o + k, none⟩ = some (.slice (some ⟨bd, od, none⟩) 2 cd) := q1
          have Hdr := Lib.hid hdr
          obtain ⟨t, ht⟩ : ∃ t, t = aeB s1 m1 y v u := ⟨_, rfl⟩
          have Ht := Lib.hid ht
          have HA : Hid (Rd wr.drew wr.heap.size A4 m1 c4 y) := HY.out.rd
          have HLE : Hid (wr.heap.size ≤ wr.drew.heap.size) := Nat.le_refl _
          have HKP : Hid (∀ a z : World, (w2.heap.size < a.heap.size ∧ bd < a.heap.size ∧ a.cell? ⟨w2.heap.size, 0, none⟩ = some (.int .i64 s1) ∧ a.cell? ⟨w2.heap.size, 1, none⟩ = some (.slice A4 m1 c4) ∧ a.cell? ⟨bd, od, none⟩ = some (.int .i64 v) ∧ a.cell? ⟨bd, od + 1, none⟩ = some (.int .i64 u)) → Below a.heap.size a z → (w2.heap.size < z.heap.size ∧ bd < z.heap.size ∧ z.cell? ⟨w2.heap.size, 0, none⟩ = some (.int .i64 s1) ∧ z.cell? ⟨w2.heap.size, 1, none⟩ = some (.slice A4 m1 c4) ∧ z.cell? ⟨bd, od, none⟩ = some (.int .i64 v) ∧ z.cell? ⟨bd, od + 1, none⟩ = some (.int .i64 u))) := by
            rintro a z ⟨p0, p1, p2, p3, p4, p5⟩ hb
            have := hb.size
            exact ⟨by omega, by omega, up hb p2 p0, up hb p3 p0, up hb p4 p1, up hb p5 p1⟩
          have HS : Hid (w2.heap.size < wr.drew.heap.size ∧ bd < wr.drew.heap.size ∧ wr.drew.cell? ⟨w2.heap.size, 0, none⟩ = some (.int .i64 s1) ∧ wr.drew.cell? ⟨w2.heap.size, 1, none⟩ = some (.slice A4 m1 c4) ∧ wr.drew.cell? ⟨bd, od, none⟩ = some (.int .i64 v) ∧ wr.drew.cell? ⟨bd, od + 1, none⟩ = some (.int .i64 u)) := ⟨i4, hbd, i0, i1, r0, r1⟩
          have HKA : Hid (∀ (a : World) (o : Obj), (w2.heap.size < a.heap.size ∧ bd < a.heap.size ∧ a.cell? ⟨w2.heap.size, 0, none⟩ = some (.int .i64 s1) ∧ a.cell? ⟨w2.heap.size, 1, none⟩ = some (.slice A4 m1 c4) ∧ a.cell? ⟨bd, od, none⟩ = some (.int .i64 v) ∧ a.cell? ⟨bd, od + 1, none⟩ = some (.int .i64 u)) → (w2.heap.size < (a.alloc o).heap.size ∧ bd < (a.alloc o).heap.size ∧ (a.alloc o).cell? ⟨w2.heap.size, 0, none⟩ = some (.int .i64 s1) ∧ (a.alloc o).cell? ⟨w2.heap.size, 1, none⟩ = some (.slice A4 m1 c4) ∧ (a.alloc o).cell? ⟨bd, od, none⟩ = some (.int .i64 v) ∧ (a.alloc o).cell? ⟨bd, od + 1, none⟩ = some (.int .i64 u))) := by
            rintro a o h
            exact HKP.out a _ h ((Below.refl _ _).alloc (Nat.le_refl _) _)
          have HKS : Hid (∀ (a : World) (j : Nat) (x : Value), (w2.heap.size < a.heap.size ∧ bd < a.heap.size ∧ a.cell? ⟨w2.heap.size, 0, none⟩ = some (.int .i64 s1) ∧ a.cell? ⟨w2.heap.size, 1, none⟩ = some (.slice A4 m1 c4) ∧ a.cell? ⟨bd, od, none⟩ = some (.int .i64 v) ∧ a.cell? ⟨bd, od + 1, none⟩ = some (.int .i64 u)) → (w2.heap.size < (a.setCell ⟨wr.heap.size, j, none⟩ x).heap.size ∧ bd < (a.setCell ⟨wr.heap.size, j, none⟩ x).heap.size ∧ (a.setCell ⟨wr.heap.size, j, none⟩ x).cell? ⟨w2.heap.size, 0, none⟩ = some (.int .i64 s1) ∧ (a.setCell ⟨wr.heap.size, j, none⟩ x).cell? ⟨w2.heap.size, 1, none⟩ = some (.slice A4 m1 c4) ∧ (a.setCell ⟨wr.heap.size, j, none⟩ x).cell? ⟨bd, od, none⟩ = some (.int .i64 v) ∧ (a.setCell ⟨wr.heap.size, j, none⟩ x).cell? ⟨bd, od + 1, none⟩ = some (.int .i64 u))) := by
            rintro a j x ⟨p0, p1, p2, p3, p4, p5⟩
            have hne : ∀ (b' o' : Nat), b' < wr.heap.size → (a.setCell ⟨wr.heap.size, j, none⟩ x).cell? ⟨b', o', none⟩ = a.cell? ⟨b', o', none⟩ := fun b' o' hb' => World.cell?_setCell_other a _ _ _ (fun e => by injection e with e1; omega)
            exact ⟨by simpa [World.setCell] using p0, by simpa [World.setCell] using p1, (hne _ _ i4).trans p2, (hne _ _ i4).trans p3, (hne _ _ hbd).trans p4, (hne _ _ hbd).trans p5⟩
          have HS2 : Hid (w2.heap.size < ((wr.alloc (Obj.cells #[Value.int IntKind.i64 0, Value.slice none 0 0] 42)).drew).heap.size ∧ bd < ((wr.alloc (Obj.cells #[Value.int IntKind.i64 0, Value.slice none 0 0] 42)).drew).heap.size ∧ ((wr.alloc (Obj.cells #[Value.int IntKind.i64 0, Value.slice none 0 0] 42)).drew).cell? ⟨w2.heap.size, 0, none⟩ = some (.int .i64 s1) ∧ ((wr.alloc (Obj.cells #[Value.int IntKind.i64 0, Value.slice none 0 0] 42)).drew).cell? ⟨w2.heap.size, 1, none⟩ = some (.slice A4 m1 c4) ∧ ((wr.alloc (Obj.cells #[Value.int IntKind.i64 0, Value.slice none 0 0] 42)).drew).cell? ⟨bd, od, none⟩ = some (.int .i64 v) ∧ ((wr.alloc (Obj.cells #[Value.int IntKind.i64 0, Value.slice none 0 0] 42)).drew).cell? ⟨bd, od + 1, none⟩ = some (.int .i64 u)) := HKA.out _ _ HS.out
          have N0 : Hid (((wr.alloc (Obj.cells #[Value.int IntKind.i64 0, Value.slice none 0 0] 42)).drew).cell? ⟨wr.heap.size, 0, none⟩ = some (.int .i64 0)) := by show (wr.alloc _).cell? _ = _; simp [go_sem]
          have N1 : Hid (((wr.alloc (Obj.cells #[Value.int IntKind.i64 0, Value.slice none 0 0] 42)).drew).cell? ⟨wr.heap.size, 1, none⟩ = some (.slice none 0 0)) := by show (wr.alloc _).cell? _ = _; simp [go_sem]
          have N2 : Hid (((wr.alloc (Obj.cells #[Value.int IntKind.i64 0, Value.slice none 0 0] 42)).drew).frozen? ⟨wr.heap.size, 0, none⟩ = false) := by show (wr.alloc _).frozen? _ = _; simp [go_sem]
          have N3 : Hid (((wr.alloc (Obj.cells #[Value.int IntKind.i64 0, Value.slice none 0 0] 42)).drew).frozen? ⟨wr.heap.size, 1, none⟩ = false) := by show (wr.alloc _).frozen? _ = _; simp [go_sem]
          have N4 : Hid (wr.heap.size < ((wr.alloc (Obj.cells #[Value.int IntKind.i64 0, Value.slice none 0 0] 42)).drew).heap.size) := by show wr.heap.size < (wr.alloc _).heap.size; simp
          have HA2 : Hid (Rd ((wr.alloc (Obj.cells #[Value.int IntKind.i64 0, Value.slice none 0 0] 42)).drew) wr.heap.size A4 m1 c4 y) := HY.out.rd.keep (((Below.refl _ _).alloc (Nat.le_refl _) _).drew) (Nat.le_refl _)
          have HLE2 : Hid (wr.heap.size ≤ ((wr.alloc (Obj.cells #[Value.int IntKind.i64 0, Value.slice none 0 0] 42)).drew).heap.size) := by show wr.heap.size ≤ (wr.alloc _).heap.size; simp
          clear hrd hcd hdr ht q1 hl2
          go_wp2
          go_region_held3 (fun z => w2.heap.size < z.heap.size ∧ bd < z.heap.size ∧ z.cell? ⟨w2.heap.size, 0, none⟩ = some (.int .i64 s1) ∧ z.cell? ⟨w2.heap.size, 1, none⟩ = some (.slice A4 m1 c4) ∧ z.cell? ⟨bd, od, none⟩ = some (.int .i64 v) ∧ z.cell? ⟨bd, od + 1, none⟩ = some (.int .i64 u))
            (first | (refine ⟨?_, ?_, ?_, ?_, ?_, ?_⟩ <;> assumption) | exact HKA.out _ _ HS.out | exact HKP.out _ _ HS.out hb4 | exact HKP.out _ _ HS2.out hb4 | exact HKA.out _ _ (HKP.out _ _ HS.out hb4) | exact HKS.out _ _ _ (HKP.out _ _ HS2.out hb4) | exact HKS.out _ _ _ (HKS.out _ _ _ (HKP.out _ _ HS2.out hb4)) | fail)
            (first | (go_at_call 104; ((with_reducible refine (AddEdge_i s1 A4 m1 c4 y v u _ _ HA.out HLE.out hm1 Hy.out).mono ?_); rintro e w4 ⟨A5, c5, rfl, hO4, hb4⟩)) | (go_at_call 104; ((with_reducible refine (AddEdge_i s1 A4 m1 c4 y v u _ _ HA2.out HLE2.out hm1 Hy.out).mono ?_); rintro e w4 ⟨A5, c5, rfl, hO4, hb4⟩; have n0 := up hb4 N0.out N4.out; have n1 := up hb4 N1.out N4.out; have n2 := upf hb4 N2.out N4.out; have n3 := upf hb4 N3.out N4.out)))
          clear HS HS2 HA HA2 HLE HLE2 HKP HKA HKS
          all_goals
            first
              | (obtain ⟨W5, hW5⟩ : ∃ W5 : World, W5 = ((w4.setCell ⟨wr.heap.size, 0, none⟩ (.int .i64 s1)).setCell ⟨wr.heap.size, 1, none⟩ (.slice A5 m1 c5)) := ⟨_, rfl⟩
                 rw [← hW5]
                 have hbb : Below wr.heap.size wr w4 := ((((Below.refl wr.heap.size wr).alloc (Nat.le_refl _) _).drew).trans (hb4.mono (Nat.le_of_lt N4.out)))
                 have HB5 : Hid (Below wr.heap.size wr W5) := by rw [hW5]; exact (hbb.setCell (p := ⟨wr.heap.size, 0, none⟩) (Nat.le_refl _) _).setCell (p := ⟨wr.heap.size, 1, none⟩) (Nat.le_refl _) _
                 have n5 : W5.cell? ⟨wr.heap.size, 0, none⟩ = some (.int .i64 s1) := by rw [hW5]; simp [go_sem, n0, n1]
                 have n6 : W5.cell? ⟨wr.heap.size, 1, none⟩ = some (.slice A5 m1 c5) := by rw [hW5]; simp [go_sem, n0, n1]
                 have n7 : wr.heap.size < W5.heap.size := by have := hb4.size; have := N4.out; rw [hW5]; simp [World.setCell]; omega
                 have HO5 : Hid (Own W5 wr.heap.size W5.heap.size 3 1 A5 m1 c5 (fun j => .int .i64 (aeX s1 m1 y v u j))) := by
                   have F := ((Fr.refl wr.heap.size (wr.heap.size + 1) w4).setCell (p := ⟨wr.heap.size, 0, none⟩) (Nat.le_refl _) (Nat.lt_succ_self _) (Value.int .i64 s1)).setCell (p := ⟨wr.heap.size, 1, none⟩) (Nat.le_refl _) (Nat.lt_succ_self _) (Value.slice A5 m1 c5)
                   rw [hW5]
                   exact (hO4.keep F (.inr (by have := N4.out; omega))).mono (by have := N4.out; omega) F.size
                 clear hW5 hbb hb4 hO4 n0 n1 n2 n3)
              | (obtain ⟨W5, hW5⟩ : ∃ W5 : World, W5 = (w4.alloc (Obj.cells #[.int .i64 s1, .slice A5 m1 c5] 42)) := ⟨_, rfl⟩
                 rw [← hW5]
                 have hbb : Below wr.heap.size wr w4 := ((Below.refl wr.heap.size wr).drew).trans hb4
                 have HB5 : Hid (Below wr.heap.size wr W5) := by rw [hW5]; exact hbb.alloc hbb.size _
                 have n5 : W5.cell? ⟨w4.heap.size, 0, none⟩ = some (.int .i64 s1) := by rw [hW5]; simp [go_sem]
                 have n6 : W5.cell? ⟨w4.heap.size, 1, none⟩ = some (.slice A5 m1 c5) := by rw [hW5]; simp [go_sem]
                 have n7 : w4.heap.size < W5.heap.size := by rw [hW5]; simp
                 have HO5 : Hid (Own W5 wr.heap.size W5.heap.size 3 1 A5 m1 c5 (fun j => .int .i64 (aeX s1 m1 y v u j))) := by
                   rw [hW5]
                   exact (hO4.alloc _).mono (by show wr.heap.size ≤ wr.heap.size + 2; omega) (by simp)
                 clear hW5 hbb hb4 hO4)
              | fail
            have l0 := up HB5.out i0 i4
            have l1 := up HB5.out i1 i4
            have l2 := upf HB5.out i2 i4
            have l3 := upf HB5.out i3 i4
            have l4 : w2.heap.size < W5.heap.size := by have := HB5.out.size; omega
            have j2' := up HB5.out j2 (by omega)
            have j3' := up HB5.out j3 (by omega)
            have j4' := upf HB5.out j4 (by omega)
            have j5' := upf HB5.out j5 (by omega)
            have l5 : w.heap.size + 1 < W5.heap.size := by omega
            have HB6 : Hid (Below w2.heap.size w2 W5) := Hbr.out.trans (HB5.out.mono (by omega))
            have HB7 : Hid (Below w.heap.size w W5) := HB2.out.trans (HB6.out.mono (by omega))
            rw [← Ht.out]
            clear i0 i1 i2 i3 j2 j3 j4 j5 r0 r1 q2 N0 N1 N2 N3 N4 hdk
            cases t
            · have hn : Hid (aaR s1 m1 x1 (lists D) = none) := by
                show _ = _
                rw [HR.out, Hdr.out, aaF_no Ht.out.symm]
              go_wp2
              have F : Fr (w.heap.size + 1) (w.heap.size + 2) W5 _ := ((Fr.refl _ _ W5).setCell (p := ⟨w.heap.size + 1, 0, none⟩) (Nat.le_refl _) (Nat.lt_succ_self _) (Value.int IntKind.i64 0)).setCell (p := ⟨w.heap.size + 1, 1, none⟩) (Nat.le_refl _) (Nat.lt_succ_self _) (Value.slice none 0 0)
              exact bodyPost_ret (v := .tuple #[.agg #[.int .i64 0, .slice none 0 0], .bool false]) (by simp [results, Try.results61, go_sem, *]) rfl ⟨none, 0, by rw [(aa_none hn.out).1, (aa_none hn.out).2.1, (aa_none hn.out).2.2], by rw [(aa_none hn.out).2.1]; exact Own.nil _ _ _ _ _ _, HB7.out.trans (F.below (by omega) (by omega))⟩
            · have hs : Hid (aaR s1 m1 x1 (lists D) = aaF s1 m1 ((lists D).drop (k + 1)) (aeX s1 m1 y v u)) := by
                show _ = _
                rw [HR.out, Hdr.out, aaF_yes Ht.out.symm]
              have Hy2 : Hid (okB s1 m1 (aeX s1 m1 y v u) = true) := aeX_ok Hy.out
              go_wp2
              have F6 : Fr w2.heap.size (w2.heap.size + 1) W5 ((W5.setCell ⟨w2.heap.size, 0, none⟩ (.int .i64 s1)).setCell ⟨w2.heap.size, 1, none⟩ (.slice A5 m1 c5)) := ((Fr.refl _ _ W5).setCell (p := ⟨w2.heap.size, 0, none⟩) (Nat.le_refl _) (Nat.lt_succ_self _) (Value.int .i64 s1)).setCell (p := ⟨w2.heap.size, 1, none⟩) (Nat.le_refl _) (Nat.lt_succ_self _) (Value.slice A5 m1 c5)
              have HF := Lib.hid F6
              clear F6
              go_roundw
              case rel =>
                exact ⟨k + 1, A5, c5, aeX s1 m1 y v u, by omega, by go_num, by simp [go_sem, l0, l1], by simp [go_sem, l0, l1], by simp [go_sem, l2], by simp [go_sem, l3], by have := HF.out.size; omega, (HO5.out.keep HF.out (.inr (by omega))).mono (by omega) HF.out.size, Hy2, hs, (HB6.out.setCell (p := ⟨w2.heap.size, 0, none⟩) (Nat.le_refl _) _).setCell (p := ⟨w2.heap.size, 1, none⟩) (Nat.le_refl _) _⟩
              case measure => simp [intOf]; omega
        · have hne : ((l.length : Int) != 2) = true := by simp; omega
          have hn : Hid (aaR s1 m1 x1 (lists D) = none) := by
            show _ = _
            rw [HR.out, hdr, aaF_short hl2]
          have HB7 : Hid (Below w.heap.size w wr) := HB2.out.trans (Hbr.out.mono (by omega))
          clear hl2 hrd hdr i0 i1 i2 i3
          go_wp2
          have F : Fr (w.heap.size + 1) (w.heap.size + 2) wr _ := ((Fr.refl _ _ wr).setCell (p := ⟨w.heap.size + 1, 0, none⟩) (Nat.le_refl _) (Nat.lt_succ_self _) (Value.int IntKind.i64 0)).setCell (p := ⟨w.heap.size + 1, 1, none⟩) (Nat.le_refl _) (Nat.lt_succ_self _) (Value.slice none 0 0)
          exact bodyPost_ret (v := .tuple #[.agg #[.int .i64 0, .slice none 0 0], .bool false]) (by simp [results, Try.results61, go_sem, *]) rfl ⟨none, 0, by rw [(aa_none hn.out).1, (aa_none hn.out).2.1, (aa_none hn.out).2.2], by rw [(aa_none hn.out).2.1]; exact Own.nil _ _ _ _ _ _, HB7.out.trans (F.below (by omega) (by omega))⟩
      · have hke : (lists D).drop k = [] := List.drop_eq_nil_of_le (by rw [lists, List.length_map]; omega)
        have hs : Hid (aaR s1 m1 x1 (lists D) = some y) := by
          show _ = _
          rw [HR.out, hke]; rfl
        have HB7 : Hid (Below w.heap.size w wr) := HB2.out.trans (Hbr.out.mono (by omega))
        have i5 : (D.length : Int) ≤ (k : Int) := by omega
        clear hke
        go_wp2
        have F : Fr (w.heap.size + 1) (w.heap.size + 2) wr _ := ((Fr.refl _ _ wr).setCell (p := ⟨w.heap.size + 1, 0, none⟩) (Nat.le_refl _) (Nat.lt_succ_self _) (Value.int IntKind.i64 s1)).setCell (p := ⟨w.heap.size + 1, 1, none⟩) (Nat.le_refl _) (Nat.lt_succ_self _) (Value.slice A4 m1 c4)
        have O1 := (HY.out.keep F (.inr (Nat.le_refl _))).mono (lo' := w.heap.size) (by omega) F.size
        exact bodyPost_ret (v := .tuple #[.agg #[.int .i64 s1, .slice A4 m1 c4], .bool true]) (by simp [results, Try.results61, go_sem, *]) rfl ⟨A4, c4, by rw [(aa_some hs.out).1, (aa_some hs.out).2.1, (aa_some hs.out).2.2.1], by rw [(aa_some hs.out).2.1, (aa_some hs.out).2.2.2]; exact O1, HB7.out.trans (F.below (by omega) (by omega))⟩
end Go.Proofs.Ytccblehcemggjaa
