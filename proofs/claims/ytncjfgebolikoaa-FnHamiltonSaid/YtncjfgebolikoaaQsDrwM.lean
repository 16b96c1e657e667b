/-
  Contracts: graphs and lists that are drawn with the cursor (the reference's l8Chordal, l4List).
-/
import Derived.Test.YtncjfgebolikoaaQsDrwD
import Derived.Test.YtncjfgebolikoaaQsLexS
import Derived.Test.YtncjfgebolikoaaQsFillS
import Derived.Test.YtncjfgebolikoaaQsLater
import Derived.Test.YtncjfgebolikoaaQsPushI
namespace Go.Proofs.Ytncjfgebolikoaa
open Go.RowKit

theorem vz_map {m : Nat} {l : List Nat} (hn : l.Nodup) (hlt : ∀ v ∈ l, v < m) : VZ m (l.map fun v : Nat => (v : Int)) := by
  refine ⟨?_, fun v hv => ?_⟩
  · rw [List.nodup_iff_pairwise_ne] at hn ⊢
    rw [List.pairwise_map]
    exact hn.imp fun h e => h (by omega)
  · obtain ⟨u, hu, rfl⟩ := List.mem_map.1 hv
    have := hlt u hu
    omega
section
variable {w z z' : World} {q nb cb Q m d : Nat} {A B : Option Addr} {sz : Int} {x : Nat → Int}
/-- A drawn graph of the call's own, perhaps without rows. -/
def dgR (w : World) (q : Nat) (A : Option Addr) (nb cb : Nat) (e : Ending) (w' : World) : Prop :=
  ∃ (sz : Int) (B : Option Addr) (m d : Nat) (x : Nat → Int), e = .returned (.agg #[.int .i64 sz, .slice B m d]) ∧ m ≤ 7 ∧ Own w' w.heap.size w'.heap.size 3 1 B m d (fun j => .int .i64 (x j)) ∧ Dr w q A nb cb w'
theorem dgQ.r {e : Ending} (h : dgQ w q A nb cb e z) : dgR w q A nb cb e z := by
  obtain ⟨sz, B, m, d, x, he, _, h7, ho, hd⟩ := h
  exact ⟨sz, B, m, d, x, he, h7, ho, hd⟩
theorem dgR.fin0 {lo : Nat} (hn7 : m ≤ 7) (hc : Cu z q A nb cb) (hfr : Fr q (q + 1) w z) (h1 : q < w.heap.size) (ho : Own z lo z.heap.size 3 1 B m d (fun j => .int .i64 (x j))) (hl : w.heap.size < lo) : dgR w q A nb cb (.returned (.agg #[.int .i64 sz, .slice B m d])) ((z.setCell ⟨w.heap.size, 0, none⟩ (.int .i64 sz)).setCell ⟨w.heap.size, 1, none⟩ (.slice B m d)) := by
  have hf := fr2 z w.heap.size (.int .i64 sz) (.slice B m d)
  exact ⟨sz, B, m, d, x, rfl, hn7, (ho.keep hf (.inr (by omega))).mono (by omega) hf.size, hc.keepF hf (by omega), hfr.past hf (Nat.le_refl _)⟩
/-- Underway in a draw: the cursor, what was there before, the box of the result, a graph in the box Q. -/
structure DG (w z : World) (q : Nat) (A : Option Addr) (nb cb Q : Nat) (sz : Int) (B : Option Addr) (m d : Nat) (x : Nat → Int) : Prop where
  dd : D0 w z q A nb cb
  g : GC z Q sz B m d
  o : Own z (w.heap.size + 1) Q 3 1 B m d (fun j => .int .i64 (x j))
  l : w.heap.size < Q
theorem DG.keep (h : DG w z q A nb cb Q sz B m d x) (hb : Below z.heap.size z z') : DG w z' q A nb cb Q sz B m d x :=
  ⟨h.dd.keep hb, h.g.keep hb, h.o.keepB hb (Nat.le_of_lt h.g.lt), h.l⟩
theorem DG.draw (h : DG w z q A nb cb Q sz B m d x) (hd : Dr z q A nb cb z') : DG w z' q A nb cb Q sz B m d x := by
  have h1 := h.dd.l1
  have h2 := h.l
  exact ⟨h.dd.draw hd, h.g.keepF hd.fr (.inr (by omega)), h.o.keep hd.fr (.inr (by omega)), h2⟩
theorem DG.new {lo : Nat} (h : D0 w z q A nb cb) (ho : Own z lo z.heap.size 3 1 B m d (fun j => .int .i64 (x j))) (hl : w.heap.size < lo) : DG w (z.alloc (Obj.cells #[.int .i64 sz, .slice B m d] 26)) q A nb cb z.heap.size sz B m d x :=
  ⟨h.keep ((Below.refl _ _).alloc (Nat.le_refl _) _), GC.new _ _ _ _ _, (ho.alloc _).mono hl (Nat.le_refl _), h.lt⟩
theorem DG.ga (h : DG w z q A nb cb Q sz B m d x) : GA z B m d x := ⟨h.o.rd.keep (Below.refl _ _) (Nat.le_of_lt h.g.lt)⟩
theorem DG.fin (h : DG w z q A nb cb Q sz B m d x) (h7 : m ≤ 7) : dgR w q A nb cb (.returned (.agg #[.int .i64 sz, .slice B m d])) ((z.setCell ⟨w.heap.size, 0, none⟩ (.int .i64 sz)).setCell ⟨w.heap.size, 1, none⟩ (.slice B m d)) :=
  dgR.fin0 h7 h.dd.cu h.dd.fr h.dd.l1 (h.o.mono (Nat.le_refl _) (Nat.le_of_lt h.g.lt)) (Nat.lt_succ_self _)
end
section
variable {w : World} {q nb cb : Nat} {A : Option Addr}
set_option maxRecDepth 100000 in
set_option maxHeartbeats 6400000 in
theorem l8Chordal_s (hc : Cu w q A nb cb) : Calls Try.prog 83 #[.pointer (some ⟨q, 0, none⟩)] w (dgR w q A nb cb) := by
  obtain ⟨W, hW⟩ : ∃ W : World, W = (w.alloc (Obj.cells #[Value.int IntKind.i64 0, Value.slice none 0 0] 26)) := ⟨_, rfl⟩
  have HD : Hid (D0 w W q A nb cb) := by rw [hW]; exact D0.new hc
  have HW := Lib.hid hW
  have KD := Lib.hid (l2Any_s HD.out.cu)
  have hlW := HD.out.lt
  clear hW hc
  go_enter Try.func83, Try.ntmps83
  go_wp2_with fail
  rw [← HW.out]
  clear HW
  refine KD.out.mono ?_
  rintro e w1 ⟨sz, B, m, d, x, rfl, hm1, hm7, ho, hd⟩
  replace HD := Lib.hid (HD.out.draw hd)
  clear hd KD
  obtain ⟨W2, hW2⟩ : ∃ W2 : World, W2 = (w1.alloc (Obj.cells #[.int .i64 sz, .slice B m d] 26)) := ⟨_, rfl⟩
  have HG : Hid (DG w W2 q A nb cb w1.heap.size sz B m d x) := by rw [hW2]; exact DG.new HD.out ho hlW
  have hl1 : w.heap.size < w1.heap.size := HD.out.lt
  have HW2 := Lib.hid hW2
  clear hW2 ho HD
  go_wp2_with fail
  rw [← HW2.out]
  clear HW2
  have KB : Hid (∀ z : World, (z.cell? ⟨w1.heap.size, 0, none⟩ = some (.int .i64 sz) ∧ z.cell? ⟨w1.heap.size, 1, none⟩ = some (.slice B m d) ∧ DG w z q A nb cb w1.heap.size sz B m d x) → Calls Try.prog 54 #[.pointer (some ⟨q, 0, none⟩), .int .i64 2] z fun e w' => ∃ v : Nat, e = .returned (.int .i64 v) ∧ (w'.cell? ⟨w1.heap.size, 0, none⟩ = some (.int .i64 sz) ∧ w'.cell? ⟨w1.heap.size, 1, none⟩ = some (.slice B m d) ∧ DG w w' q A nb cb w1.heap.size sz B m d x)) := fun z ⟨_, _, h3⟩ =>
    (l1Below_s (k := 2) h3.dd.cu (by omega) (by omega)).mono fun e w' ⟨v, he, _, hd⟩ => ⟨v, he, (h3.draw hd).g.c0, (h3.draw hd).g.c1, h3.draw hd⟩
  have KL : Hid (∀ (z : World) (v : Nat), (z.cell? ⟨w1.heap.size, 0, none⟩ = some (.int .i64 sz) ∧ z.cell? ⟨w1.heap.size, 1, none⟩ = some (.slice B m d) ∧ DG w z q A nb cb w1.heap.size sz B m d x) → Calls Try.prog 87 #[.agg #[.int .i64 sz, .slice B m d], .int .i64 v] z fun e w' => ∃ (A' : Option Addr) (c' : Nat), e = .returned (.tuple #[.slice A' (lxL sz m x v).length c', .bool (lxB sz m x v)]) ∧ (w'.cell? ⟨w1.heap.size, 0, none⟩ = some (.int .i64 sz) ∧ w'.cell? ⟨w1.heap.size, 1, none⟩ = some (.slice B m d) ∧ DG w w' q A nb cb w1.heap.size sz B m d x) ∧ ON (q + 1) w' A' c' (lxL sz m x v)) := fun z v ⟨_, _, h3⟩ =>
    (LexOrder_s sz B m d x v z h3.ga (by omega)).mono fun e w' ⟨A', c', he, ho, hb⟩ => ⟨A', c', he, ⟨(h3.keep hb).g.c0, (h3.keep hb).g.c1, h3.keep hb⟩, ho.mono (Nat.succ_le_of_lt h3.dd.cu.lt)⟩
  have HG1 : Hid (DG w W2.drew q A nb cb w1.heap.size sz B m d x) := HG.out.keep (Below.refl _ _).drew
  have g0 := HG1.out.g.c0
  have g1 := HG1.out.g.c1
  have g2 := HG1.out
  have HS : Hid (W2.drew.cell? ⟨w1.heap.size, 0, none⟩ = some (.int .i64 sz) ∧ W2.drew.cell? ⟨w1.heap.size, 1, none⟩ = some (.slice B m d) ∧ DG w W2.drew q A nb cb w1.heap.size sz B m d x) := ⟨g0, g1, g2⟩
  clear g0 g1 g2 HG1 HG
  go_region_held3 (fun z => z.cell? ⟨w1.heap.size, 0, none⟩ = some (.int .i64 sz) ∧ z.cell? ⟨w1.heap.size, 1, none⟩ = some (.slice B m d) ∧ DG w z q A nb cb w1.heap.size sz B m d x)
    (first | exact HS.out | assumption | fail)
    (first
      | (go_at_call 54; ((with_reducible refine (KB.out _ HS.out).mono ?_); rintro e w3 ⟨v, rfl, hS3⟩))
      | (go_at_call 87; ((with_reducible refine (KL.out _ v (by assumption)).mono ?_); rintro e w4 ⟨A4, c4, rfl, hS4, hl4⟩))
      | fail)
  have HG := Lib.hid hS4.2.2
  have HL := Lib.hid hl4
  have HX : Hid (lxB sz m x v = true → sz = (m : Int) ∧ okB (m : Int) m x = true ∧ VZ m ((lxL sz m x v).map fun u : Nat => (u : Int)) ∧ (lxL sz m x v).length = m) := fun h => by
    rw [lxL_yes h]
    unfold lxB at h
    rw [Bool.and_eq_true, decide_eq_true_eq] at h
    obtain ⟨⟨_, h1⟩, h2⟩ := h
    obtain ⟨_, es, vg, _⟩ := okB_ok' h2
    subst es
    have hn1 := vg.n1
    obtain ⟨f1, f2⟩ := grN_fine (f := labN (rw_ x)) (m := m) (s := ((v : Nat) : Int).toNat) (by omega) (m - 1) (by omega)
    exact ⟨rfl, h2, vz_map f1 f2, lexN_len hn1⟩
  obtain ⟨Lx, hLx⟩ : ∃ L, L = lxL sz m x v := ⟨_, rfl⟩
  obtain ⟨ix, hix⟩ : ∃ b, b = lxB sz m x v := ⟨_, rfl⟩
  rw [← hLx, ← hix] at HX
  rw [← hLx] at HL
  rw [← hLx, ← hix]
  rename ∀ (a : Act) (w' : World), _ → _ => hK
  refine hK _ _ ?_
  clear hK hS3 hS4 hl4 HS KB KL hLx hix
  have hlq : q < w.heap.size := HG.out.dd.l1
  have j1 : (w.heap.size = w1.heap.size) = False := by simp; omega
  have j2 : (w1.heap.size = w.heap.size) = False := by simp; omega
  cases ix
  · have HF := Lib.hid (HG.out.fin hm7)
    have e0 := HG.out.g.c0
    have e1 := HG.out.g.c1
    have d0 := HG.out.dd.d.c0
    have d1 := HG.out.dd.d.c1
    have d2 := HG.out.dd.d.f0
    have d3 := HG.out.dd.d.f1
    go_wp2
    exact bodyPost_ret (v := .agg #[.int .i64 sz, .slice B m d]) (by simp [results, Try.results83, go_sem, *]) rfl HF.out
  · obtain ⟨rfl, hok, hV, hlen⟩ := HX.out rfl
    have KB := Lib.hid (l1Once_s (k := 4) HG.out.dd.cu (by omega) (by omega))
    have Hok := Lib.hid hok
    have HV := Lib.hid hV
    have Hlen := Lib.hid hlen
    clear hok hV hlen HX
    go_wp2_with fail
    refine KB.out.mono ?_
    rintro e w5 ⟨y, rfl, hd⟩
    replace HG := Lib.hid (HG.out.draw hd)
    have hL5 : Hid (ON (q + 1) w5 A4 c4 Lx) := ⟨(HL.out.own.keep hd.fr (.inr (Nat.le_refl _))).mono (Nat.le_refl _) hd.fr.size⟩
    clear hd KB HL
    cases y
    · have KF : Hid (Calls Try.prog 88 #[.agg #[.int .i64 (m : Int), .slice B m d], .slice A4 Lx.length c4] w5 fun e w' => ∃ A' c', e = .returned (.agg #[.int .i64 m, .slice A' m c']) ∧ OG w5.heap.size w' A' m c' (fl (rw_ x) (Lx.map fun u : Nat => (u : Int)) (Lx.map fun u : Nat => (u : Int)).length) ∧ Below w5.heap.size w5 w') := by
        have h1 := hL5.out.ln.li
        rw [Hlen.out] at h1 ⊢
        exact l6Filled_s B m d (rw_ x) A4 c4 _ w5 (GV.of HG.out.ga.rd (Nat.le_refl _) Hok.out) h1 HV.out (by rw [List.length_map]; exact Hlen.out)
      obtain ⟨r', hr'⟩ : ∃ r', r' = fl (rw_ x) (Lx.map fun u : Nat => (u : Int)) (Lx.map fun u : Nat => (u : Int)).length := ⟨_, rfl⟩
      rw [← hr'] at KF
      have e0 := HG.out.g.c0
      have e1 := HG.out.g.c1
      have hl5 : w.heap.size < w5.heap.size := by have := HG.out.g.lt; omega
      clear hr' hL5 HV Hlen Hok
      go_wp2_with fail
      refine KF.out.mono ?_
      rintro e w6 ⟨A6, c6, rfl, hO6, hb⟩
      replace HG := Lib.hid (HG.out.keep hb)
      have HF := Lib.hid (dgR.fin0 (sz := (m : Int)) hm7 HG.out.dd.cu HG.out.dd.fr HG.out.dd.l1 hO6.own hl5)
      clear e0 e1 hb hO6 KF
      have d0 := HG.out.dd.d.c0
      have d1 := HG.out.dd.d.c1
      have d2 := HG.out.dd.d.f0
      have d3 := HG.out.dd.d.f1
      go_wp2
      exact bodyPost_ret (v := .agg #[.int .i64 (m : Int), .slice A6 m c6]) (by simp [results, Try.results83, go_sem, *]) rfl HF.out
    · have HF := Lib.hid (HG.out.fin hm7)
      have e0 := HG.out.g.c0
      have e1 := HG.out.g.c1
      have d0 := HG.out.dd.d.c0
      have d1 := HG.out.dd.d.c1
      have d2 := HG.out.dd.d.f0
      have d3 := HG.out.dd.d.f1
      go_wp2
      exact bodyPost_ret (v := .agg #[.int .i64 (m : Int), .slice B m d]) (by simp [results, Try.results83, go_sem, *]) rfl HF.out
end
section
variable {w wr w2 : World} {q nb cb m d n' c' : Nat} {A B A' : Option Addr} {sz : Int} {f : Nat → Int}
theorem Fr.pastB {K : Nat} (h : Fr q (q + 1) w wr) (k : Below K wr w2) (hK : w.heap.size ≤ K) : Fr q (q + 1) w w2 :=
  ⟨k.os.trans h.os, k.tape.trans h.tape, k.output.trans h.output, Nat.le_trans h.size k.size, fun j hj ho => (k.block j (Nat.lt_of_lt_of_le hj hK)).trans (h.block j hj ho)⟩
theorem GC.keepB {K : Nat} (h : GC w q sz A m d) (hb : Below K w w2) (hq : q < K) : GC w2 q sz A m d := ⟨up hb h.c0 hq, up hb h.c1 hq, upf hb h.f0 hq, upf hb h.f1 hq⟩
/-- Underway in drawing a list: the cursor, what was there before, the box of a graph, the list. -/
structure DL (w wr : World) (q : Nat) (A : Option Addr) (nb cb : Nat) (sz : Int) (B : Option Addr) (m d : Nat) (A' : Option Addr) (n' c' : Nat) (f : Nat → Int) : Prop where
  cu : Cu wr q A nb cb
  fr : Fr q (q + 1) w wr
  l1 : q < w.heap.size
  g : GC wr w.heap.size sz B m d
  o : Own wr (w.heap.size + 1) wr.heap.size 3 1 A' n' c' (fun j => .int .i64 (f j))
theorem DL.keep (h : DL w wr q A nb cb sz B m d A' n' c' f) (hb : Below wr.heap.size wr w2) : DL w w2 q A nb cb sz B m d A' n' c' f :=
  ⟨h.cu.keep hb, h.fr.trans (Fr.of_below hb), h.l1, h.g.keep hb, (h.o.keepB hb (Nat.le_refl _)).mono (Nat.le_refl _) hb.size⟩
theorem DL.draw (h : DL w wr q A nb cb sz B m d A' n' c' f) (hd : Dr wr q A nb cb w2) : DL w w2 q A nb cb sz B m d A' n' c' f := by
  have h1 := h.l1
  exact ⟨hd.cu, h.fr.trans hd.fr, h1, h.g.keepF hd.fr (.inr (by omega)), (h.o.keep hd.fr (.inr (by omega))).mono (Nat.le_refl _) hd.fr.size⟩
theorem DL.grow {A2 : Option Addr} {n2 c2 : Nat} {f2 : Nat → Int} (h : DL w wr q A nb cb sz B m d A' n' c' f) (hb : Below (w.heap.size + 1) wr w2) (ho : Own w2 (w.heap.size + 1) w2.heap.size 3 1 A2 n2 c2 (fun j => .int .i64 (f2 j))) : DL w w2 q A nb cb sz B m d A2 n2 c2 f2 := by
  have h1 := h.l1
  exact ⟨h.cu.keepB hb (by omega), h.fr.pastB hb (by omega), h1, h.g.keepB hb (by omega), ho⟩
/-- A list with one number more. -/
def fzN (n : Nat) (f : Nat → Int) (v : Int) (j : Nat) : Int := if j < n then f j else v
theorem fzN_own {lo hi : Nat} {v : Int} (h : Own w lo hi 3 1 A' n' c' (fun j => .int .i64 (f j))) : Own w lo hi 3 1 A' n' c' (fun j => .int .i64 (fzN n' f v j)) :=
  h.congr fun j hj => by unfold fzN; rw [if_pos (by omega)]
theorem fzN_at {v : Int} : fzN n' f v n' = v := by unfold fzN; rw [if_neg (by omega)]
/-- A drawn list. -/
def dlQ (w : World) (q : Nat) (A : Option Addr) (nb cb : Nat) (e : Ending) (w' : World) : Prop :=
  ∃ (A' : Option Addr) (n' c' : Nat) (f : Nat → Int), e = .returned (.slice A' n' c') ∧ n' ≤ 7 ∧ Own w' w.heap.size w'.heap.size 3 1 A' n' c' (fun j => .int .i64 (f j)) ∧ Dr w q A nb cb w'
theorem DL.fin (h : DL w wr q A nb cb sz B m d A' n' c' f) (hn : n' ≤ 7) : dlQ w q A nb cb (.returned (.slice A' n' c')) wr := ⟨A', n', c', f, rfl, hn, h.o.mono (Nat.le_succ _) (Nat.le_refl _), h.cu, h.fr⟩
set_option maxRecDepth 100000 in
set_option maxHeartbeats 6400000 in
theorem l4List_s (hc : Cu w q A nb cb) : Calls Try.prog 50 #[.pointer (some ⟨q, 0, none⟩), .agg #[.int .i64 sz, .slice B m d]] w (dlQ w q A nb cb) := by
  obtain ⟨W, hW⟩ : ∃ W : World, W = ((w.alloc (Obj.cells #[Value.int IntKind.i64 sz, Value.slice B m d] 26)).alloc (Obj.cells #[] 3)) := ⟨_, rfl⟩
  have HL : Hid (DL w W q A nb cb sz B m d (some ⟨w.heap.size + 1, 0, none⟩) 0 0 (fun _ => 0)) := by
    have hb : Below w.heap.size w W := by rw [hW]; exact ((Below.refl _ _).alloc (Nat.le_refl _) _).alloc (by simp) _
    refine ⟨hc.keep hb, Fr.of_below hb, hc.lt, ?_, ?_⟩
    · rw [hW]; constructor <;> simp [go_sem]
    · have hn := heap_alloc_new (w.alloc (Obj.cells #[Value.int IntKind.i64 sz, Value.slice B m d] 26)) (Obj.cells #[] 3)
      have he : (w.alloc (Obj.cells #[Value.int IntKind.i64 sz, Value.slice B m d] 26)).heap.size = w.heap.size + 1 := by simp
      rw [he, ← hW] at hn
      exact .inr ⟨w.heap.size + 1, #[], rfl, Nat.le_refl _, by rw [hW]; simp, hn, Nat.le_refl _, by unfold maxLen; omega, rfl, fun j hj => absurd hj (by simp)⟩
  have HW := Lib.hid hW
  have KB := Lib.hid (l1Below_s (k := 6) HL.out.cu (by omega) (by omega))
  clear hW hc
  go_enter Try.func50, Try.ntmps50
  go_wp2_with fail
  rw [← HW.out]
  clear HW
  refine KB.out.mono ?_
  rintro e w1 ⟨v, rfl, hv, hd⟩
  replace HL := Lib.hid (HL.out.draw hd)
  clear hd KB
  go_wp2
  go_loopw [5, 6] (fun l i wr => ∃ (k n' c' : Nat) (A' : Option Addr) (f : Nat → Int), n' + k ≤ 5 ∧ i = .int .i64 k ∧ l = .slice A' n' c' ∧ Hid (DL w wr q A nb cb sz B m d A' n' c' f)) (fun _ i _ => (intOf i).toNat)
  case atStart => exact ⟨v, 0, 0, _, _, by omega, rfl, rfl, HL⟩
  case round =>
    clear HL
    obtain ⟨k, n', c', A', f, hk, rfl, rfl, HL⟩ := hrel
    by_cases hk0 : 0 < k
    · obtain ⟨j, rfl⟩ : ∃ j, k = j + 1 := ⟨k - 1, by omega⟩
      have i1 : (0 : Int) < ((j + 1 : Nat) : Int) := by omega
      have e0 := HL.out.g.c0
      have KB : Hid (∀ b : Nat, 0 < b → b ≤ 7 → Calls Try.prog 54 #[.pointer (some ⟨q, 0, none⟩), .int .i64 b] wr fun e w' => ∃ v : Nat, e = .returned (.int .i64 v) ∧ Dr wr q A nb cb w') := fun b h1 h2 => (l1Below_s HL.out.cu h1 (by omega)).mono fun e w' ⟨v, he, _, hd⟩ => ⟨v, he, hd⟩
      have hcase : 7 ≤ sz ∨ (∃ b : Nat, 2 ≤ b ∧ b < 7 ∧ sz = (b : Int)) ∨ sz ≤ 1 := by
        by_cases h1 : 7 ≤ sz
        · exact .inl h1
        · by_cases h2 : sz ≤ 1
          · exact .inr (.inr h2)
          · exact .inr (.inl ⟨sz.toNat, by omega, by omega, by omega⟩)
      rcases hcase with hc | ⟨b, hb1, hb7, rfl⟩ | hc
      · have i2 : ¬ sz < 7 := by omega
        have KC := Lib.hid (KB.out 7 (by omega) (by omega))
        clear KB
        go_wp2_with fail
        refine KC.out.mono ?_
        rintro e w3 ⟨v3, rfl, hd⟩
        replace HL := Lib.hid (HL.out.draw hd)
        clear hd KC e0
        have HO := Lib.hid (fzN_own (v := (v3 : Int)) HL.out.o)
        have hlo : w.heap.size + 1 ≤ w3.heap.size := HL.out.g.lt
        go_wp2_with (first | (at_builtin; (refine wpList_pushI _ (by rfl) _ _ (by rfl) (w.heap.size + 1) w3.heap.size A' n' c' (fzN n' f (v3 : Int)) HO.out hlo (v3 : Int) fzN_at (by rfl) 1 w3.heap.size rfl (by rfl) (by omega) ?_; intro g cap w4 hO4 hb4)))
        have HL4 := Lib.hid (HL.out.grow hb4 hO4)
        clear hO4 hb4 HO
        go_wp2
        go_roundw
        case rel => exact ⟨j, n' + 1, cap, _, _, by omega, by go_num, rfl, HL4⟩
        case measure => (simp [intOf] <;> omega)
      · have i2 : (b : Int) < 7 := by omega
        have i3 : (1 : Int) < (b : Int) := by omega
        have i5 : ¬ ((b : Int) ≤ 1) := by omega
        have KC := Lib.hid (KB.out b (by omega) (by omega))
        clear KB
        go_wp2_with fail
        refine KC.out.mono ?_
        rintro e w3 ⟨v3, rfl, hd⟩
        replace HL := Lib.hid (HL.out.draw hd)
        clear hd KC e0
        have HO := Lib.hid (fzN_own (v := (v3 : Int)) HL.out.o)
        have hlo : w.heap.size + 1 ≤ w3.heap.size := HL.out.g.lt
        go_wp2_with (first | (at_builtin; (refine wpList_pushI _ (by rfl) _ _ (by rfl) (w.heap.size + 1) w3.heap.size A' n' c' (fzN n' f (v3 : Int)) HO.out hlo (v3 : Int) fzN_at (by rfl) 1 w3.heap.size rfl (by rfl) (by omega) ?_; intro g cap w4 hO4 hb4)))
        have HL4 := Lib.hid (HL.out.grow hb4 hO4)
        clear hO4 hb4 HO
        go_wp2
        go_roundw
        case rel => exact ⟨j, n' + 1, cap, _, _, by omega, by go_num, rfl, HL4⟩
        case measure => (simp [intOf] <;> omega)
      · have i2 : sz < 7 := by omega
        have KC := Lib.hid (KB.out 1 (by omega) (by omega))
        clear KB
        go_wp2_with fail
        refine KC.out.mono ?_
        rintro e w3 ⟨v3, rfl, hd⟩
        replace HL := Lib.hid (HL.out.draw hd)
        clear hd KC e0
        have HO := Lib.hid (fzN_own (v := (v3 : Int)) HL.out.o)
        have hlo : w.heap.size + 1 ≤ w3.heap.size := HL.out.g.lt
        go_wp2_with (first | (at_builtin; (refine wpList_pushI _ (by rfl) _ _ (by rfl) (w.heap.size + 1) w3.heap.size A' n' c' (fzN n' f (v3 : Int)) HO.out hlo (v3 : Int) fzN_at (by rfl) 1 w3.heap.size rfl (by rfl) (by omega) ?_; intro g cap w4 hO4 hb4)))
        have HL4 := Lib.hid (HL.out.grow hb4 hO4)
        clear hO4 hb4 HO
        go_wp2
        go_roundw
        case rel => exact ⟨j, n' + 1, cap, _, _, by omega, by go_num, rfl, HL4⟩
        case measure => (simp [intOf] <;> omega)
    · obtain rfl : k = 0 := by omega
      have KB := Lib.hid (l1Once_s (k := 14) HL.out.cu (by omega) (by omega))
      go_wp2_with fail
      refine KB.out.mono ?_
      rintro e w3 ⟨y, rfl, hd⟩
      replace HL := Lib.hid (HL.out.draw hd)
      clear hd KB
      cases y
      · have HF := Lib.hid (HL.out.fin (by omega))
        go_wp2
        go_ret
        exact HF.out
      · obtain ⟨W4, hW4⟩ : ∃ W4 : World, W4 = (w3.alloc (Obj.cells #[.int .i64 (-1), .int .i64 7] 3)) := ⟨_, rfl⟩
        have hb4 : Below w3.heap.size w3 W4 := by rw [hW4]; exact (Below.refl _ _).alloc (Nat.le_refl _) _
        have hl4 : w3.heap.size < W4.heap.size := by rw [hW4]; simp
        have hl : LC W4 w3.heap.size 2 := by
          refine ⟨fun j hj => ?_⟩
          rw [hW4]
          have hj5 : j = 0 ∨ j = 1 := by omega
          rcases hj5 with rfl | rfl
          · exact ⟨-1, by simp [go_sem]⟩
          · exact ⟨7, by simp [go_sem]⟩
        have hq3 : q < w3.heap.size := HL.out.cu.lt
        replace HL := Lib.hid (HL.out.keep hb4)
        have KP := Lib.hid (l1PickInt_s (k := 2) HL.out.cu hl hq3 hl4 (by omega) (by omega))
        have HW4 := Lib.hid hW4
        clear hW4 hb4 hl
        go_wp2_with fail
        rw [← HW4.out]
        clear HW4
        refine KP.out.mono ?_
        rintro e w5 ⟨z, rfl, hd⟩
        replace HL := Lib.hid (HL.out.draw hd)
        clear hd KP
        have HO := Lib.hid (fzN_own (v := z) HL.out.o)
        have hlo : w.heap.size + 1 ≤ w5.heap.size := HL.out.g.lt
        go_wp2_with (first | (at_builtin; (refine wpList_pushI _ (by rfl) _ _ (by rfl) (w.heap.size + 1) w5.heap.size A' n' c' (fzN n' f z) HO.out hlo z fzN_at (by rfl) 1 w5.heap.size rfl (by rfl) (by omega) ?_; intro g cap w6 hO6 hb6)))
        have HF := Lib.hid ((HL.out.grow hb6 hO6).fin (by omega))
        clear hO6 hb6 HO
        go_wp2
        go_ret
        exact HF.out
end
end Go.Proofs.Ytncjfgebolikoaa
