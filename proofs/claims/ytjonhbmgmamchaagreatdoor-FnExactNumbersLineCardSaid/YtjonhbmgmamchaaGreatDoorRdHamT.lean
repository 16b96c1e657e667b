/-
  Contracts: the reference's search for a way, whole.
-/
import Derived.Test.YtjonhbmgmamchaaGreatDoorRdGC
namespace Go.Proofs.YtjonhbmgmamchaaGreatDoor
open Go.RowKit

theorem step_appendG0 (w : World) {ops : Array Oper} {o : Oper} {a : Act} {K : Act → World → Prop} {Q : Exit → Act → World → Prop} {E : Prop} {lo hi B c m c2 : Nat} {A A2 : Option Addr} {x : Nat → Value} {y : Nat → Int} (hgd : o.guard = none) (s z : Operand)
    (ho : o.op = .call { callee := .builtin .append, args := #[s, z], argTypes := #[22, 22] })
    (hs : a.eval s = .slice A 0 c) (h : Own w lo hi 3 1 A 0 c x) (hz : a.eval z = .slice A2 m c2) (hr : Rd w B A2 m c2 y) (hlo : lo ≤ w.heap.size) (hm : m ≤ 1073741824)
    (hK : ∀ A' c' w', Own w' lo w'.heap.size 3 1 A' m c' (fun j => .int .i64 (y j)) → Below lo w w' → w.grownBy w' (Value.slice A 0 c).ownBlock → K (a.put o.dst (.slice A' m c')) w') :
    if Region.wanted o (yielded ops a.tmps) = true then Oper.wp Tryz.prog o a w K Q else E := by
  refine step_appendG w hgd s z ho hs h hz hr hlo (by omega) hm ?_
  intro A' c' w' h1 h2 h3
  rw [Nat.zero_add] at h1 ⊢
  exact hK A' c' w' (h1.congr (fun j _ => by unfold thenI; simp)) h2 h3

set_option maxRecDepth 100000 in
set_option maxHeartbeats 3200000 in
theorem search_s (m c : Nat) (A : Option Addr) (x : Nat → Int) (B lo : Nat) (closed : Bool) (hok : okB m m x = true) : ∀ (k : Nat) (l : List Nat) (g c' : Nat) (w : World), l.length + k = m → Way (rw_ x) m closed l → (closed = true → l ≠ []) → Rd w B A m c x → B ≤ w.heap.size → lo ≤ w.heap.size → Own w lo w.heap.size 3 1 (some ⟨g, 0, none⟩) l.length c' (ni l) →
    Calls Tryz.prog 56 #[.agg #[.int .i64 m, .slice A m c], .slice (some ⟨g, 0, none⟩) l.length c', .bool closed] w (seaS w lo k (sea (rw_ x) m closed k l)) := by
  intro k
  induction k with
  | zero =>
    intro l g c' w hlm hway _ hr hB hlo hO
    exact search_s0 m c A x B lo closed hok l g c' w (by omega) hway hr hB hlo hO
  | succ k ih =>
    intro l g c' w hlm hway hcn hr hB hlo hO
    obtain ⟨vg, hx⟩ := okB_vg hok
    have hn1 := vg.n1
    have hn7 := vg.n7
    have IH := Lib.hid ih
    have Hok := Lib.hid hok
    have HV := Lib.hid vg
    have HX := Lib.hid hx
    have Hway := Lib.hid hway
    have Hcn := Lib.hid hcn
    have Hlm := Lib.hid hlm
    obtain ⟨W, hW⟩ : ∃ W : World, W = (w.alloc (Obj.cells #[Value.int IntKind.i64 m, Value.slice A m c] 27)) := ⟨_, rfl⟩
    have HB : Hid (Below w.heap.size w W) := by rw [hW]; exact ((Below.refl _ _).alloc (Nat.le_refl _) _)
    have a0 : w.heap.size < W.heap.size := by rw [hW]; simp
    have e0 : W.cell? ⟨w.heap.size, 0, none⟩ = some (.int .i64 m) := by rw [hW]; simp [go_sem]
    have e1 : W.cell? ⟨w.heap.size, 1, none⟩ = some (.slice A m c) := by rw [hW]; simp [go_sem]
    have HK := Lib.hid (hr.keep (HB.out.mono hB) (Nat.le_refl _))
    have HO : Hid (Own W lo W.heap.size 3 1 (some ⟨g, 0, none⟩) l.length c' (ni l)) := (hO.keepB HB.out (Nat.le_refl _)).mono (Nat.le_refl _) HB.out.size
    have HW := Lib.hid hW
    have hne : ((l.length : Int) == (m : Int)) = false := by simp; omega
    have hne2 : (l.length = m) = False := by simp; omega
    have hlen7 : l.length ≤ 7 := by omega
    clear ih hok vg hx hway hcn hlm hW hr hO
    go_enter Tryz.func56, Tryz.ntmps56
    go_wp2_with fail
    rw [← HW.out]
    clear HW
    go_loopw [8] (fun i wr => ∃ v : Nat, v ≤ m ∧ i = .int .i64 v ∧ Hid (∀ u, u < v → at_ (rw_ x) m closed k l u = none) ∧ Hid (Below W.heap.size W wr)) (fun i _ => m - (intOf i).toNat)
    case atStart => exact ⟨0, Nat.zero_le _, rfl, (fun u hu => absurd hu (by omega)), Below.refl _ _⟩
    case round =>
      obtain ⟨v, hv, rfl, hall, hbr⟩ := hrel
      have zr := hbr.out.size
      have j0 := up hbr.out e0 a0
      have j1 := up hbr.out e1 a0
      by_cases hlt : v < m
      · have HOr : Hid (Own wr lo wr.heap.size 3 1 (some ⟨g, 0, none⟩) l.length c' (ni l)) := (HO.out.keepB hbr.out (Nat.le_refl _)).mono (Nat.le_refl _) zr
        have HKr : Hid (Rd wr B A m c x) := HK.out.keep (hbr.out.mono (by omega)) (Nat.le_refl _)
        have i1 : (v : Int) < (m : Int) := by omega
        have hBr : B ≤ wr.heap.size := by omega
        -- the test
        have K8 : Hid (∀ z : World, (z.cell? ⟨w.heap.size, 0, none⟩ = some (.int .i64 m) ∧ z.cell? ⟨w.heap.size, 1, none⟩ = some (.slice A m c) ∧ Below wr.heap.size wr z) → Calls Tryz.prog 90 #[.slice (some ⟨g, 0, none⟩) l.length c', .int .i64 v] z fun e w' => e = .returned (.bool (decide (v ∈ l))) ∧ z = w') := by
          rintro z ⟨_, _, t2⟩
          exact l8Has_s (some ⟨g, 0, none⟩) l.length c' l v z z.heap.size ⟨rfl, ((HOr.out.keepB t2 (Nat.le_refl _)).mono (Nat.le_refl _) t2.size).rd⟩ (by omega)
        have hd : Below wr.heap.size wr wr.drew := (Below.refl _ _).drew
        have j0' : wr.drew.cell? ⟨w.heap.size, 0, none⟩ = some (.int .i64 m) := j0
        have j1' : wr.drew.cell? ⟨w.heap.size, 1, none⟩ = some (.slice A m c) := j1
        by_cases hvl : v ∈ l
        · have Hn : Hid (at_ (rw_ x) m closed k l v = none) := at_no (cnd_in hvl)
          rw [decide_eq_true hvl] at K8
          clear hvl
          have KW : Hid (Calls Tryz.prog 90 #[.slice (some ⟨g, 0, none⟩) l.length c', .int .i64 v] wr fun e w' => e = .returned (.bool true) ∧ w' = wr) := (K8.out wr ⟨j0, j1, Below.refl _ _⟩).mono fun _ _ h => ⟨h.1, h.2.symm⟩
          have KN : Hid (∀ n, Calls Tryz.prog 90 #[.slice (some ⟨g, 0, none⟩) l.length c', .int .i64 v] (wr.drewN n) fun e w' => e = .returned (.bool true) ∧ w' = wr.drewN n) := fun n => (K8.out (wr.drewN n) ⟨j0, j1, below_drewN (Below.refl _ _) n⟩).mono fun _ _ h => ⟨h.1, h.2.symm⟩
          clear K8 hd j0' j1'
          go_wp2
          go_quiet (first | (go_at_call 90; exact Calls.quiet_of_same KW.out) | (go_at_call 90; exact Calls.quiet_of_same (KN.out _)))
          go_wp2
          refine ⟨⟨v + 1, by omega, by go_num, fun u hu => ?_, below_drewN hbr.out _⟩, by simp [intOf] <;> omega⟩
          by_cases huv : u < v
          · exact hall.out u huv
          · obtain rfl : u = v := by omega
            exact Hn.out
        · rw [decide_eq_false hvl] at K8
          by_cases hl0 : l = []
          · have Hc : Hid (cnd (rw_ x) closed l v = true) := by
              show _ = _
              have hcf : closed = false := by
                cases closed
                · rfl
                · exact absurd hl0 (Hcn.out rfl)
              rw [hl0, hcf]; rfl
            have hle : (l.length : Int) ≤ 0 := by rw [hl0]; simp
            have hd1 : decide (0 < l.length) = false := by rw [hl0]; rfl
            have hd2 : decide ((0 : Int) < (l.length : Int)) = false := by rw [hl0]; rfl
            have KW : Hid (Calls Tryz.prog 90 #[.slice (some ⟨g, 0, none⟩) l.length c', .int .i64 v] wr fun e w' => e = .returned (.bool false) ∧ w' = wr) := (K8.out wr ⟨j0, j1, Below.refl _ _⟩).mono fun _ _ h => ⟨h.1, h.2.symm⟩
            have KN : Hid (∀ n, Calls Tryz.prog 90 #[.slice (some ⟨g, 0, none⟩) l.length c', .int .i64 v] (wr.drewN n) fun e w' => e = .returned (.bool false) ∧ w' = wr.drewN n) := fun n => (K8.out (wr.drewN n) ⟨j0, j1, below_drewN (Below.refl _ _) n⟩).mono fun _ _ h => ⟨h.1, h.2.symm⟩
            clear K8 hd j0' j1' hvl hl0
            go_wp2
            go_quiet (first | (go_at_call 90; exact Calls.quiet_of_same KW.out) | (go_at_call 90; exact Calls.quiet_of_same (KN.out _)))
            have y0 : (wr.drewN nq).cell? ⟨w.heap.size, 0, none⟩ = some (.int .i64 m) := j0
            have y1 : (wr.drewN nq).cell? ⟨w.heap.size, 1, none⟩ = some (.slice A m c) := j1
            have hbq : Below W.heap.size W (wr.drewN nq) := below_drewN hbr.out nq
            have HOq4 : Own (wr.drewN nq) lo (wr.drewN nq).heap.size 3 1 (some ⟨g, 0, none⟩) l.length c' (ni l) := HOr.out
            have HKq4 : Rd (wr.drewN nq) B A m c x := HKr.out
            obtain ⟨wq, hwq⟩ : ∃ wq : World, wq = wr.drewN nq := ⟨_, rfl⟩
            rw [← hwq] at y0 y1 hbq HOq4 HKq4 ⊢
            have HBq := Lib.hid hbq
            have HOq := Lib.hid HOq4
            have HKq := Lib.hid HKq4
            have hHq : w.heap.size < wq.heap.size := World.block_lt_of_cell? _ _ y0
            have hBq : B ≤ wq.heap.size := by have := hbq.size; omega
            clear hbq HOq4 HKq4 hwq j0 j1 KW KN
            have Hla : Hid ((l ++ [v]).length = l.length + 1) := by show _ = _; rw [List.length_append]; rfl
            have Hw2 : Hid (Way (rw_ x) m closed (l ++ [v])) := Hway.out.snoc hlt Hc.out
            have Hat : Hid (at_ (rw_ x) m closed k l v = sea (rw_ x) m closed k (l ++ [v])) := at_yes Hc.out
            obtain ⟨so, hso⟩ : ∃ so, so = sea (rw_ x) m closed k (l ++ [v]) := ⟨_, rfl⟩
            have Hso := Lib.hid hso
            have KA : Hid (∀ (a : World) (ob : Obj), (a.cell? ⟨w.heap.size, 0, none⟩ = some (.int .i64 m) ∧ a.cell? ⟨w.heap.size, 1, none⟩ = some (.slice A m c) ∧ Below wq.heap.size wq a) → ((a.alloc ob).cell? ⟨w.heap.size, 0, none⟩ = some (.int .i64 m) ∧ (a.alloc ob).cell? ⟨w.heap.size, 1, none⟩ = some (.slice A m c) ∧ Below wq.heap.size wq (a.alloc ob))) := by
              rintro a ob ⟨t0, t1, t2⟩
              have hb : Below a.heap.size a (a.alloc ob) := (Below.refl _ _).alloc (Nat.le_refl _) _
              exact ⟨up hb t0 (World.block_lt_of_cell? _ _ t0), up hb t1 (World.block_lt_of_cell? _ _ t1), t2.alloc t2.size _⟩
            have KB : Hid (∀ a z : World, (a.cell? ⟨w.heap.size, 0, none⟩ = some (.int .i64 m) ∧ a.cell? ⟨w.heap.size, 1, none⟩ = some (.slice A m c) ∧ Below wq.heap.size wq a) → Below wq.heap.size a z → (z.cell? ⟨w.heap.size, 0, none⟩ = some (.int .i64 m) ∧ z.cell? ⟨w.heap.size, 1, none⟩ = some (.slice A m c) ∧ Below wq.heap.size wq z)) := by
              rintro a z ⟨t0, t1, t2⟩ hb
              exact ⟨up hb t0 hHq, up hb t1 hHq, t2.trans hb⟩
            have KI : Hid (∀ (z : World) (g6 cap : Nat), (z.cell? ⟨w.heap.size, 0, none⟩ = some (.int .i64 m) ∧ z.cell? ⟨w.heap.size, 1, none⟩ = some (.slice A m c) ∧ Below wq.heap.size wq z) → Own z wq.heap.size z.heap.size 3 1 (some ⟨g6, 0, none⟩) (l.length + 1) cap (ni (l ++ [v])) → Calls Tryz.prog 56 #[.agg #[.int .i64 m, .slice A m c], .slice (some ⟨g6, 0, none⟩) (l.length + 1) cap, .bool closed] z fun e w' => ∃ A' n' c', e = .returned (.tuple #[.slice A' n' c', .bool so.isSome]) ∧ Hid (Below wq.heap.size wq w' ∧ ∀ out, so = some out → n' = out.length ∧ Own w' lo w'.heap.size 3 1 A' out.length c' (ni out)) ∧ (w'.cell? ⟨w.heap.size, 0, none⟩ = some (.int .i64 m) ∧ w'.cell? ⟨w.heap.size, 1, none⟩ = some (.slice A m c) ∧ Below wq.heap.size wq w')) := by
              rintro z g6 cap ⟨t0, t1, t2⟩ hO
              have hi := IH.out (l ++ [v]) g6 cap z (by rw [Hla.out]; have := Hlm.out; omega) Hw2.out (fun _ => by simp) (HKq.out.keep (t2.mono hBq) (Nat.le_refl _)) (by have := t2.size; omega) (by have := t2.size; omega) (by rw [Hla.out]; exact hO.mono (by omega) (Nat.le_refl _))
              rw [Hla.out] at hi
              refine hi.mono ?_
              intro e w' hp
              rw [← Hso.out] at hp
              cases so with
              | none =>
                obtain ⟨A', n', c', rfl, _, hb⟩ := hp
                exact ⟨A', n', c', rfl, ⟨t2.trans (hb.mono t2.size), fun out h => by cases h⟩, up hb t0 (World.block_lt_of_cell? _ _ t0), up hb t1 (World.block_lt_of_cell? _ _ t1), t2.trans (hb.mono t2.size)⟩
              | some out =>
                obtain ⟨A', c', rfl, hO7, hb⟩ := hp
                exact ⟨A', out.length, c', rfl, ⟨t2.trans (hb.mono t2.size), fun o2 h => by cases h; exact ⟨rfl, hO7⟩⟩, up hb t0 (World.block_lt_of_cell? _ _ t0), up hb t1 (World.block_lt_of_cell? _ _ t1), t2.trans (hb.mono t2.size)⟩
            have HSq : Hid (wq.cell? ⟨w.heap.size, 0, none⟩ = some (.int .i64 m) ∧ wq.cell? ⟨w.heap.size, 1, none⟩ = some (.slice A m c) ∧ Below wq.heap.size wq wq) := ⟨y0, y1, Below.refl _ _⟩
            have HS1 : Hid (((wq.alloc (Obj.cells #[] 3)).drew).cell? ⟨w.heap.size, 0, none⟩ = some (.int .i64 m) ∧ ((wq.alloc (Obj.cells #[] 3)).drew).cell? ⟨w.heap.size, 1, none⟩ = some (.slice A m c) ∧ Below wq.heap.size wq ((wq.alloc (Obj.cells #[] 3)).drew)) := by
              have t := KA.out wq (Obj.cells #[] 3) HSq.out
              exact ⟨t.1, t.2.1, t.2.2.drew⟩
            have HS2 : Hid ((((wq.alloc (Obj.cells #[] 3)).alloc (Obj.cells #[.int .i64 (v : Int)] 3)).drew).cell? ⟨w.heap.size, 0, none⟩ = some (.int .i64 m) ∧ (((wq.alloc (Obj.cells #[] 3)).alloc (Obj.cells #[.int .i64 (v : Int)] 3)).drew).cell? ⟨w.heap.size, 1, none⟩ = some (.slice A m c) ∧ Below wq.heap.size wq (((wq.alloc (Obj.cells #[] 3)).alloc (Obj.cells #[.int .i64 (v : Int)] 3)).drew)) := by
              have t := KA.out _ (Obj.cells #[.int .i64 (v : Int)] 3) (KA.out wq (Obj.cells #[] 3) HSq.out)
              exact ⟨t.1, t.2.1, t.2.2.drew⟩
            have HS3 : Hid ((((wq.alloc (Obj.cells #[.int .i64 (v : Int)] 3)).alloc (Obj.cells #[] 3)).drew).cell? ⟨w.heap.size, 0, none⟩ = some (.int .i64 m) ∧ (((wq.alloc (Obj.cells #[.int .i64 (v : Int)] 3)).alloc (Obj.cells #[] 3)).drew).cell? ⟨w.heap.size, 1, none⟩ = some (.slice A m c) ∧ Below wq.heap.size wq (((wq.alloc (Obj.cells #[.int .i64 (v : Int)] 3)).alloc (Obj.cells #[] 3)).drew)) := by
              have t := KA.out _ (Obj.cells #[] 3) (KA.out wq (Obj.cells #[.int .i64 (v : Int)] 3) HSq.out)
              exact ⟨t.1, t.2.1, t.2.2.drew⟩
            have HS4 : Hid (((wq.alloc (Obj.cells #[.int .i64 (v : Int)] 3)).drew).cell? ⟨w.heap.size, 0, none⟩ = some (.int .i64 m) ∧ ((wq.alloc (Obj.cells #[.int .i64 (v : Int)] 3)).drew).cell? ⟨w.heap.size, 1, none⟩ = some (.slice A m c) ∧ Below wq.heap.size wq ((wq.alloc (Obj.cells #[.int .i64 (v : Int)] 3)).drew)) := by
              have t := KA.out wq (Obj.cells #[.int .i64 (v : Int)] 3) HSq.out
              exact ⟨t.1, t.2.1, t.2.2.drew⟩
            have HO1 : Hid (Own ((wq.alloc (Obj.cells #[] 3)).drew) wq.heap.size (wq.heap.size + 1) 3 1 (some ⟨wq.heap.size, 0, none⟩) 0 0 (ni [])) :=
              .inr ⟨wq.heap.size, #[], rfl, Nat.le_refl _, Nat.lt_succ_self _, heap_alloc_new wq _, Nat.le_refl _, by unfold maxLen; omega, rfl, fun j hj => absurd hj (by omega)⟩
            have HO2 : Hid (Own (((wq.alloc (Obj.cells #[] 3)).alloc (Obj.cells #[.int .i64 (v : Int)] 3)).drew) wq.heap.size (wq.heap.size + 1) 3 1 (some ⟨wq.heap.size, 0, none⟩) 0 0 (ni [])) := Own.alloc HO1.out _
            have HO3 : Hid (Own (((wq.alloc (Obj.cells #[.int .i64 (v : Int)] 3)).alloc (Obj.cells #[] 3)).drew) wq.heap.size (wq.heap.size + 1 + 1) 3 1 (some ⟨wq.heap.size + 1, 0, none⟩) 0 0 (ni [])) := by
              have hn := heap_alloc_new (wq.alloc (Obj.cells #[.int .i64 (v : Int)] 3)) (Obj.cells #[] 3)
              have he : (wq.alloc (Obj.cells #[.int .i64 (v : Int)] 3)).heap.size = wq.heap.size + 1 := by simp
              rw [he] at hn
              exact .inr ⟨wq.heap.size + 1, #[], rfl, by omega, Nat.lt_succ_self _, hn, Nat.le_refl _, by unfold maxLen; omega, rfl, fun j hj => absurd hj (by omega)⟩
            have HR1 : Hid (Rd ((wq.alloc (Obj.cells #[] 3)).drew) wq.heap.size (some ⟨g, 0, none⟩) l.length c' (fun j => ((l.getD j 0 : Nat) : Int))) := HOq.out.rd.keep (((Below.refl _ _).alloc (Nat.le_refl _) _).drew) (Nat.le_refl _)
            have HR2 : Hid (Rd (((wq.alloc (Obj.cells #[] 3)).alloc (Obj.cells #[.int .i64 (v : Int)] 3)).drew) wq.heap.size (some ⟨g, 0, none⟩) l.length c' (fun j => ((l.getD j 0 : Nat) : Int))) := HOq.out.rd.keep ((((Below.refl _ _).alloc (Nat.le_refl _) _).alloc (by simp) _).drew) (Nat.le_refl _)
            have HR3 : Hid (Rd (((wq.alloc (Obj.cells #[.int .i64 (v : Int)] 3)).alloc (Obj.cells #[] 3)).drew) wq.heap.size (some ⟨g, 0, none⟩) l.length c' (fun j => ((l.getD j 0 : Nat) : Int))) := HOq.out.rd.keep ((((Below.refl _ _).alloc (Nat.le_refl _) _).alloc (by simp) _).drew) (Nat.le_refl _)
            have L1 : Hid (wq.heap.size ≤ ((wq.alloc (Obj.cells #[] 3)).drew).heap.size) := by show wq.heap.size ≤ (wq.alloc _).heap.size; simp
            have L2 : Hid (wq.heap.size ≤ (((wq.alloc (Obj.cells #[] 3)).alloc (Obj.cells #[.int .i64 (v : Int)] 3)).drew).heap.size) := by show wq.heap.size ≤ ((wq.alloc _).alloc _).heap.size; simp; omega
            have L3 : Hid (wq.heap.size ≤ (((wq.alloc (Obj.cells #[.int .i64 (v : Int)] 3)).alloc (Obj.cells #[] 3)).drew).heap.size) := by show wq.heap.size ≤ ((wq.alloc _).alloc _).heap.size; simp; omega
            have B2 : Hid ((((wq.alloc (Obj.cells #[] 3)).alloc (Obj.cells #[.int .i64 (v : Int)] 3)).drew).heap[wq.heap.size + 1]? = some (.cells #[.int .i64 (v : Int)] 3 (0, 0)) ∧ wq.heap.size + 1 < (((wq.alloc (Obj.cells #[] 3)).alloc (Obj.cells #[.int .i64 (v : Int)] 3)).drew).heap.size) := by
              have hn := heap_alloc_new (wq.alloc (Obj.cells #[] 3)) (Obj.cells #[.int .i64 (v : Int)] 3)
              have he : (wq.alloc (Obj.cells #[] 3)).heap.size = wq.heap.size + 1 := by simp
              rw [he] at hn
              exact ⟨hn, by show _ < ((wq.alloc _).alloc _).heap.size; simp⟩
            have B3 : Hid ((((wq.alloc (Obj.cells #[.int .i64 (v : Int)] 3)).alloc (Obj.cells #[] 3)).drew).heap[wq.heap.size]? = some (.cells #[.int .i64 (v : Int)] 3 (0, 0)) ∧ wq.heap.size < (((wq.alloc (Obj.cells #[.int .i64 (v : Int)] 3)).alloc (Obj.cells #[] 3)).drew).heap.size) :=
              ⟨(Below.heap_alloc (wq.alloc (Obj.cells #[.int .i64 (v : Int)] 3)) _ _ (by simp)).trans (heap_alloc_new wq _), by show _ < ((wq.alloc _).alloc _).heap.size; simp; omega⟩
            have HC1 : Hid (∀ (z : World) (A1 : Option Addr) (k1 : Nat), Own z wq.heap.size z.heap.size 3 1 A1 l.length k1 (fun j => .int .i64 ((l.getD j 0 : Nat) : Int)) → Own z wq.heap.size z.heap.size 3 1 A1 l.length k1 (ni (l ++ [v]))) := by
              intro z A1 k1 h
              exact h.congr (fun j hj => by rw [ni_left hj]; rfl)
            have hd7 : wq.drew.cell? ⟨w.heap.size, 0, none⟩ = some (.int .i64 m) := y0
            have hd8 : wq.drew.cell? ⟨w.heap.size, 1, none⟩ = some (.slice A m c) := y1
            have hd9 : Below wq.heap.size wq wq.drew := (Below.refl _ _).drew
            clear hso
            go_wp2
            go_region_held3 (fun z => z.cell? ⟨w.heap.size, 0, none⟩ = some (.int .i64 m) ∧ z.cell? ⟨w.heap.size, 1, none⟩ = some (.slice A m c) ∧ Below wq.heap.size wq z)
              (first | assumption | (refine ⟨?_, ?_, ?_⟩ <;> assumption) | exact HS1.out | exact HS2.out | exact HS3.out | exact HS4.out | (refine KA.out _ _ ?_; assumption) | fail)
              (first
                | ((refine step_appendG0 _ (by rfl) _ _ (by rfl) (by rfl) HO1.out (by rfl) HR1.out L1.out (by omega) ?_; intro A1 k1 w5 hO5 hb5 hg5; have hS5 := KB.out _ _ HS1.out hb5; have hO5' := HC1.out _ _ _ hO5))
                | ((refine step_appendG0 _ (by rfl) _ _ (by rfl) (by rfl) HO2.out (by rfl) HR2.out L2.out (by omega) ?_; intro A1 k1 w5 hO5 hb5 hg5; have hS5 := KB.out _ _ HS2.out hb5; have hO5' := HC1.out _ _ _ hO5; have hB5 := (hg5.block (wq.heap.size + 1) B2.out.2 (by simp [Value.ownBlock])).trans B2.out.1))
                | ((refine step_appendG0 _ (by rfl) _ _ (by rfl) (by rfl) HO3.out (by rfl) HR3.out L3.out (by omega) ?_; intro A1 k1 w5 hO5 hb5 hg5; have hS5 := KB.out _ _ HS3.out hb5; have hO5' := HC1.out _ _ _ hO5; have hB5 := (hg5.block wq.heap.size B3.out.2 (by simp [Value.ownBlock])).trans B3.out.1))
                | ((refine step_push _ (by rfl) _ _ _ (by rfl) 3 _ 1 8 Tryz.underlying22 info_int rfl (by omega) wq.heap.size w5.heap.size A1 l.length k1 (ni (l ++ [v])) (by rfl) (hO5'.alloc _) (by have := hS5.2.2.size; simp; omega) w5.heap.size #[.int .i64 (v : Int)] 3 (0, 0) 1 (heap_alloc_new w5 _) (by rfl) rfl ni_news (by simp [Value.oneCell']) (by omega) (by omega) ?_; intro g6 cap w6 hp; have hS6 := KB.out _ _ (KA.out _ _ hS5) hp.below))
                | ((refine step_push _ (by rfl) _ _ _ (by rfl) 3 _ 1 8 Tryz.underlying22 info_int rfl (by omega) wq.heap.size w5.heap.size A1 l.length k1 (ni (l ++ [v])) (by rfl) hO5' hS5.2.2.size (wq.heap.size + 1) #[.int .i64 (v : Int)] 3 (0, 0) 1 hB5 (by rfl) rfl ni_news (by simp [Value.oneCell']) (by omega) (by omega) ?_; intro g6 cap w6 hp; have hS6 := KB.out _ _ hS5 hp.below))
                | ((refine step_push _ (by rfl) _ _ _ (by rfl) 3 _ 1 8 Tryz.underlying22 info_int rfl (by omega) wq.heap.size w5.heap.size A1 l.length k1 (ni (l ++ [v])) (by rfl) hO5' hS5.2.2.size wq.heap.size #[.int .i64 (v : Int)] 3 (0, 0) 1 hB5 (by rfl) rfl ni_news (by simp [Value.oneCell']) (by omega) (by omega) ?_; intro g6 cap w6 hp; have hS6 := KB.out _ _ hS5 hp.below))
                | (go_at_call 56; ((with_reducible refine (KI.out _ _ _ (by assumption) hp.own).mono ?_); rintro e w7 ⟨A7, n7, c7, rfl, HP7, hS7⟩))
                | fail)
            all_goals
              have HB7 : Hid (Below W.heap.size W w7) := HBq.out.trans (HP7.out.1.mono HBq.out.size)
              cases so with
              | none =>
                have Hn : Hid (at_ (rw_ x) m closed k l v = none) := Hat.out.trans Hso.out.symm
                clear HP7 hS7 HSq HS1 HS2 HS3 HS4 HO1 HO2 HO3 HR1 HR2 HR3 L1 L2 L3 B2 B3 HC1 KA KB KI hp hS6 hO5 hO5' hb5 hg5 hS5 y0 y1 hd7 hd8 hd9
                go_wp2
                refine ⟨⟨v + 1, by omega, by go_num, fun u' hu => ?_, HB7⟩, by simp [intOf] <;> omega⟩
                by_cases huv : u' < v
                · exact hall.out u' huv
                · obtain rfl : u' = v := by omega
                  exact Hn.out
              | some out =>
                have Hs : Hid (sea (rw_ x) m closed (k + 1) l = some out) := sea_some hlt (Hat.out.trans Hso.out.symm) hall.out
                obtain ⟨en, hO7⟩ := HP7.out.2 out rfl
                subst en
                have HO7 := Lib.hid hO7
                clear hO7 HP7 hS7 HSq HS1 HS2 HS3 HS4 HO1 HO2 HO3 HR1 HR2 HR3 L1 L2 L3 B2 B3 HC1 KA KB KI hp hS6 hO5 hO5' hb5 hg5 hS5 y0 y1 hd7 hd8 hd9
                go_wp2
                go_ret2
                rw [Hs.out]
                unfold seaS
                exact ⟨_, _, rfl, HO7.out, HB.out.trans (HB7.out.mono (by omega))⟩
          · obtain ⟨m1, m2, _, _⟩ := last_mem hl0
            have hpos : 0 < l.length := List.length_pos_iff.2 hl0
            obtain ⟨j, hj⟩ : ∃ j, j = l.length - 1 := ⟨_, rfl⟩
            rw [← hj] at m2
            obtain ⟨g', eg, _, _, hg3, hcl, _⟩ := HOr.out.at_ hpos
            simp only [Option.some.injEq, Addr.mk.injEq, and_true] at eg
            subst eg
            have q1 : wr.cell? ⟨g, j, none⟩ = some (.int .i64 (l.getLastD 0 : Nat)) := (hcl j (by omega)).trans (by unfold ni; rw [m2])
            have hum := Hway.out.lt _ m1
            have hlast : l.getLast? = some (l.getLastD 0) := by rw [List.getLastD_eq_getLast?, List.getLast?_eq_some_getLast hl0]; rfl
            have Hcnd : Hid (cnd (rw_ x) closed l v = edg (rw_ x) (l.getLastD 0) v) := by
              show _ = _
              unfold cnd
              rw [hlast]
              have : l.contains v = false := by simpa using hvl
              rw [this]; rfl
            obtain ⟨u, hu⟩ : ∃ u, u = l.getLastD 0 := ⟨_, rfl⟩
            rw [← hu] at q1 hum Hcnd
            obtain ⟨b, o, rfl, hb, hc⟩ := HKr.out.pos (by omega)
            have q3 := hc u hum
            rw [HX.out u hum] at q3
            have hr128 := HV.out.lt128 hum
            have s1 : IntKind.i64.wrap ((l.length : Int) - 1) = (j : Int) := by
              have : (l.length : Int) - 1 = (j : Int) := by omega
              rw [this]; exact Go.IntWalk.i64_in (j : Int) (by omega)
            have i2 : (j : Int) < (l.length : Int) := by omega
            have i3 : (0 : Int) < (l.length : Int) := by omega
            have K9 : Hid (∀ z : World, (z.cell? ⟨w.heap.size, 0, none⟩ = some (.int .i64 m) ∧ z.cell? ⟨w.heap.size, 1, none⟩ = some (.slice (some ⟨b, o, none⟩) m c) ∧ z.cell? ⟨g, j, none⟩ = some (.int .i64 u) ∧ Below wr.heap.size wr z) → Calls Tryz.prog 90 #[.slice (some ⟨g, 0, none⟩) l.length c', .int .i64 v] z fun e w' => e = .returned (.bool false) ∧ z = w') := by
              rintro z ⟨t0, t1, t2, t3⟩
              exact K8.out z ⟨t0, t1, t3⟩
            have KE : Hid (∀ z : World, (z.cell? ⟨w.heap.size, 0, none⟩ = some (.int .i64 m) ∧ z.cell? ⟨w.heap.size, 1, none⟩ = some (.slice (some ⟨b, o, none⟩) m c) ∧ z.cell? ⟨g, j, none⟩ = some (.int .i64 u) ∧ Below wr.heap.size wr z) → Calls Tryz.prog 87 #[.agg #[.int .i64 m, .slice (some ⟨b, o, none⟩) m c], .int .i64 u, .int .i64 v] z fun e w' => e = .returned (.bool (edg (rw_ x) u v)) ∧ (w'.cell? ⟨w.heap.size, 0, none⟩ = some (.int .i64 m) ∧ w'.cell? ⟨w.heap.size, 1, none⟩ = some (.slice (some ⟨b, o, none⟩) m c) ∧ w'.cell? ⟨g, j, none⟩ = some (.int .i64 u) ∧ Below wr.heap.size wr w')) := by
              rintro z ⟨t0, t1, t2, t3⟩
              refine (l2Edge_any m b o m c z u v (rw_ x u) (up t3 q3 (by omega)) (by have := t3.size; omega) hum (by omega) (by omega) (by omega)).mono ?_
              rintro e w' ⟨rfl, hb⟩
              exact ⟨by rw [Int.toNat_natCast]; rfl, up hb t0 (World.block_lt_of_cell? _ _ t0), up hb t1 (World.block_lt_of_cell? _ _ t1), up hb t2 (World.block_lt_of_cell? _ _ t2), t3.trans (hb.mono t3.size)⟩
            have q1' : wr.drew.cell? ⟨g, j, none⟩ = some (.int .i64 u) := q1
            clear hl0 m1 m2 hj hcl hlast hc hu hvl K8
            go_wp2
            go_region_held3 (fun z => z.cell? ⟨w.heap.size, 0, none⟩ = some (.int .i64 m) ∧ z.cell? ⟨w.heap.size, 1, none⟩ = some (.slice (some ⟨b, o, none⟩) m c) ∧ z.cell? ⟨g, j, none⟩ = some (.int .i64 u) ∧ Below wr.heap.size wr z)
              (first | assumption | (refine ⟨?_, ?_, ?_, ?_⟩ <;> assumption) | fail)
              (first
                | (go_at_call 90; ((with_reducible refine (K9.out _ (by assumption)).mono ?_); rintro e w' ⟨rfl, rfl⟩))
                | (go_at_call 87; ((with_reducible refine (KE.out _ (by assumption)).mono ?_); rintro e w4 ⟨rfl, hS4⟩))
                | fail)
            have hb4 := hS4.2.2.2
            have y0 := hS4.1
            have y1 := hS4.2.1
            have hbq : Below W.heap.size W w4 := hbr.out.trans (hb4.mono zr)
            have HOq4 : Own w4 lo w4.heap.size 3 1 (some ⟨g, 0, none⟩) l.length c' (ni l) := (HOr.out.keepB hb4 (Nat.le_refl _)).mono (Nat.le_refl _) hb4.size
            have HKq4 : Rd w4 B (some ⟨b, o, none⟩) m c x := HKr.out.keep (hb4.mono hBr) (Nat.le_refl _)
            cases he : edg (rw_ x) u v
            · have Hn : Hid (at_ (rw_ x) m closed k l v = none) := at_no (Hcnd.out.trans he)
              have HBq : Hid (Below W.heap.size W w4) := hbq
              clear he hS4 hb4 K9 KE hd j0' j1' q1' q1 q3 y0 y1 hbq HOq4 HKq4
              go_wp2
              first
                | (refine ⟨⟨v + 1, by omega, by go_num, fun u' hu => ?_, HBq⟩, by simp [intOf] <;> omega⟩
                   by_cases huv : u' < v
                   · exact hall.out u' huv
                   · obtain rfl : u' = v := by omega
                     exact Hn.out)
                | (go_roundw
                   case rel =>
                     refine ⟨v + 1, by omega, by go_num, fun u' hu => ?_, HBq⟩
                     by_cases huv : u' < v
                     · exact hall.out u' huv
                     · obtain rfl : u' = v := by omega
                       exact Hn.out
                   case measure => simp [intOf] <;> omega)
            · have Hc : Hid (cnd (rw_ x) closed l v = true) := Hcnd.out.trans he
              obtain ⟨wq, hwq⟩ : ∃ wq : World, wq = w4 := ⟨_, rfl⟩
              rw [← hwq] at y0 y1 hbq HOq4 HKq4 ⊢
              have HBq := Lib.hid hbq
              have HOq := Lib.hid HOq4
              have HKq := Lib.hid HKq4
              have hHq : w.heap.size < wq.heap.size := World.block_lt_of_cell? _ _ y0
              have hBq : B ≤ wq.heap.size := by have := hbq.size; omega
              clear he hS4 hb4 K9 KE hd j0' j1' q1' q1 q3 hbq HOq4 HKq4 hwq
              have Hla : Hid ((l ++ [v]).length = l.length + 1) := by show _ = _; rw [List.length_append]; rfl
              have Hw2 : Hid (Way (rw_ x) m closed (l ++ [v])) := Hway.out.snoc hlt Hc.out
              have Hat : Hid (at_ (rw_ x) m closed k l v = sea (rw_ x) m closed k (l ++ [v])) := at_yes Hc.out
              obtain ⟨so, hso⟩ : ∃ so, so = sea (rw_ x) m closed k (l ++ [v]) := ⟨_, rfl⟩
              have Hso := Lib.hid hso
              have KA : Hid (∀ (a : World) (ob : Obj), (a.cell? ⟨w.heap.size, 0, none⟩ = some (.int .i64 m) ∧ a.cell? ⟨w.heap.size, 1, none⟩ = some (.slice (some ⟨b, o, none⟩) m c) ∧ Below wq.heap.size wq a) → ((a.alloc ob).cell? ⟨w.heap.size, 0, none⟩ = some (.int .i64 m) ∧ (a.alloc ob).cell? ⟨w.heap.size, 1, none⟩ = some (.slice (some ⟨b, o, none⟩) m c) ∧ Below wq.heap.size wq (a.alloc ob))) := by
                rintro a ob ⟨t0, t1, t2⟩
                have hb : Below a.heap.size a (a.alloc ob) := (Below.refl _ _).alloc (Nat.le_refl _) _
                exact ⟨up hb t0 (World.block_lt_of_cell? _ _ t0), up hb t1 (World.block_lt_of_cell? _ _ t1), t2.alloc t2.size _⟩
              have KB : Hid (∀ a z : World, (a.cell? ⟨w.heap.size, 0, none⟩ = some (.int .i64 m) ∧ a.cell? ⟨w.heap.size, 1, none⟩ = some (.slice (some ⟨b, o, none⟩) m c) ∧ Below wq.heap.size wq a) → Below wq.heap.size a z → (z.cell? ⟨w.heap.size, 0, none⟩ = some (.int .i64 m) ∧ z.cell? ⟨w.heap.size, 1, none⟩ = some (.slice (some ⟨b, o, none⟩) m c) ∧ Below wq.heap.size wq z)) := by
                rintro a z ⟨t0, t1, t2⟩ hb
                exact ⟨up hb t0 hHq, up hb t1 hHq, t2.trans hb⟩
              have KI : Hid (∀ (z : World) (g6 cap : Nat), (z.cell? ⟨w.heap.size, 0, none⟩ = some (.int .i64 m) ∧ z.cell? ⟨w.heap.size, 1, none⟩ = some (.slice (some ⟨b, o, none⟩) m c) ∧ Below wq.heap.size wq z) → Own z wq.heap.size z.heap.size 3 1 (some ⟨g6, 0, none⟩) (l.length + 1) cap (ni (l ++ [v])) → Calls Tryz.prog 56 #[.agg #[.int .i64 m, .slice (some ⟨b, o, none⟩) m c], .slice (some ⟨g6, 0, none⟩) (l.length + 1) cap, .bool closed] z fun e w' => ∃ A' n' c', e = .returned (.tuple #[.slice A' n' c', .bool so.isSome]) ∧ Hid (Below wq.heap.size wq w' ∧ ∀ out, so = some out → n' = out.length ∧ Own w' lo w'.heap.size 3 1 A' out.length c' (ni out)) ∧ (w'.cell? ⟨w.heap.size, 0, none⟩ = some (.int .i64 m) ∧ w'.cell? ⟨w.heap.size, 1, none⟩ = some (.slice (some ⟨b, o, none⟩) m c) ∧ Below wq.heap.size wq w')) := by
                rintro z g6 cap ⟨t0, t1, t2⟩ hO
                have hi := IH.out (l ++ [v]) g6 cap z (by rw [Hla.out]; have := Hlm.out; omega) Hw2.out (fun _ => by simp) (HKq.out.keep (t2.mono hBq) (Nat.le_refl _)) (by have := t2.size; omega) (by have := t2.size; omega) (by rw [Hla.out]; exact hO.mono (by omega) (Nat.le_refl _))
                rw [Hla.out] at hi
                refine hi.mono ?_
                intro e w' hp
                rw [← Hso.out] at hp
                cases so with
                | none =>
                  obtain ⟨A', n', c', rfl, _, hb⟩ := hp
                  exact ⟨A', n', c', rfl, ⟨t2.trans (hb.mono t2.size), fun out h => by cases h⟩, up hb t0 (World.block_lt_of_cell? _ _ t0), up hb t1 (World.block_lt_of_cell? _ _ t1), t2.trans (hb.mono t2.size)⟩
                | some out =>
                  obtain ⟨A', c', rfl, hO7, hb⟩ := hp
                  exact ⟨A', out.length, c', rfl, ⟨t2.trans (hb.mono t2.size), fun o2 h => by cases h; exact ⟨rfl, hO7⟩⟩, up hb t0 (World.block_lt_of_cell? _ _ t0), up hb t1 (World.block_lt_of_cell? _ _ t1), t2.trans (hb.mono t2.size)⟩
              have HSq : Hid (wq.cell? ⟨w.heap.size, 0, none⟩ = some (.int .i64 m) ∧ wq.cell? ⟨w.heap.size, 1, none⟩ = some (.slice (some ⟨b, o, none⟩) m c) ∧ Below wq.heap.size wq wq) := ⟨y0, y1, Below.refl _ _⟩
              have HS1 : Hid (((wq.alloc (Obj.cells #[] 3)).drew).cell? ⟨w.heap.size, 0, none⟩ = some (.int .i64 m) ∧ ((wq.alloc (Obj.cells #[] 3)).drew).cell? ⟨w.heap.size, 1, none⟩ = some (.slice (some ⟨b, o, none⟩) m c) ∧ Below wq.heap.size wq ((wq.alloc (Obj.cells #[] 3)).drew)) := by
                have t := KA.out wq (Obj.cells #[] 3) HSq.out
                exact ⟨t.1, t.2.1, t.2.2.drew⟩
              have HS2 : Hid ((((wq.alloc (Obj.cells #[] 3)).alloc (Obj.cells #[.int .i64 (v : Int)] 3)).drew).cell? ⟨w.heap.size, 0, none⟩ = some (.int .i64 m) ∧ (((wq.alloc (Obj.cells #[] 3)).alloc (Obj.cells #[.int .i64 (v : Int)] 3)).drew).cell? ⟨w.heap.size, 1, none⟩ = some (.slice (some ⟨b, o, none⟩) m c) ∧ Below wq.heap.size wq (((wq.alloc (Obj.cells #[] 3)).alloc (Obj.cells #[.int .i64 (v : Int)] 3)).drew)) := by
                have t := KA.out _ (Obj.cells #[.int .i64 (v : Int)] 3) (KA.out wq (Obj.cells #[] 3) HSq.out)
                exact ⟨t.1, t.2.1, t.2.2.drew⟩
              have HS3 : Hid ((((wq.alloc (Obj.cells #[.int .i64 (v : Int)] 3)).alloc (Obj.cells #[] 3)).drew).cell? ⟨w.heap.size, 0, none⟩ = some (.int .i64 m) ∧ (((wq.alloc (Obj.cells #[.int .i64 (v : Int)] 3)).alloc (Obj.cells #[] 3)).drew).cell? ⟨w.heap.size, 1, none⟩ = some (.slice (some ⟨b, o, none⟩) m c) ∧ Below wq.heap.size wq (((wq.alloc (Obj.cells #[.int .i64 (v : Int)] 3)).alloc (Obj.cells #[] 3)).drew)) := by
                have t := KA.out _ (Obj.cells #[] 3) (KA.out wq (Obj.cells #[.int .i64 (v : Int)] 3) HSq.out)
                exact ⟨t.1, t.2.1, t.2.2.drew⟩
              have HS4 : Hid (((wq.alloc (Obj.cells #[.int .i64 (v : Int)] 3)).drew).cell? ⟨w.heap.size, 0, none⟩ = some (.int .i64 m) ∧ ((wq.alloc (Obj.cells #[.int .i64 (v : Int)] 3)).drew).cell? ⟨w.heap.size, 1, none⟩ = some (.slice (some ⟨b, o, none⟩) m c) ∧ Below wq.heap.size wq ((wq.alloc (Obj.cells #[.int .i64 (v : Int)] 3)).drew)) := by
                have t := KA.out wq (Obj.cells #[.int .i64 (v : Int)] 3) HSq.out
                exact ⟨t.1, t.2.1, t.2.2.drew⟩
              have HO1 : Hid (Own ((wq.alloc (Obj.cells #[] 3)).drew) wq.heap.size (wq.heap.size + 1) 3 1 (some ⟨wq.heap.size, 0, none⟩) 0 0 (ni [])) :=
                .inr ⟨wq.heap.size, #[], rfl, Nat.le_refl _, Nat.lt_succ_self _, heap_alloc_new wq _, Nat.le_refl _, by unfold maxLen; omega, rfl, fun j hj => absurd hj (by omega)⟩
              have HO2 : Hid (Own (((wq.alloc (Obj.cells #[] 3)).alloc (Obj.cells #[.int .i64 (v : Int)] 3)).drew) wq.heap.size (wq.heap.size + 1) 3 1 (some ⟨wq.heap.size, 0, none⟩) 0 0 (ni [])) := Own.alloc HO1.out _
              have HO3 : Hid (Own (((wq.alloc (Obj.cells #[.int .i64 (v : Int)] 3)).alloc (Obj.cells #[] 3)).drew) wq.heap.size (wq.heap.size + 1 + 1) 3 1 (some ⟨wq.heap.size + 1, 0, none⟩) 0 0 (ni [])) := by
                have hn := heap_alloc_new (wq.alloc (Obj.cells #[.int .i64 (v : Int)] 3)) (Obj.cells #[] 3)
                have he : (wq.alloc (Obj.cells #[.int .i64 (v : Int)] 3)).heap.size = wq.heap.size + 1 := by simp
                rw [he] at hn
                exact .inr ⟨wq.heap.size + 1, #[], rfl, by omega, Nat.lt_succ_self _, hn, Nat.le_refl _, by unfold maxLen; omega, rfl, fun j hj => absurd hj (by omega)⟩
              have HR1 : Hid (Rd ((wq.alloc (Obj.cells #[] 3)).drew) wq.heap.size (some ⟨g, 0, none⟩) l.length c' (fun j => ((l.getD j 0 : Nat) : Int))) := HOq.out.rd.keep (((Below.refl _ _).alloc (Nat.le_refl _) _).drew) (Nat.le_refl _)
              have HR2 : Hid (Rd (((wq.alloc (Obj.cells #[] 3)).alloc (Obj.cells #[.int .i64 (v : Int)] 3)).drew) wq.heap.size (some ⟨g, 0, none⟩) l.length c' (fun j => ((l.getD j 0 : Nat) : Int))) := HOq.out.rd.keep ((((Below.refl _ _).alloc (Nat.le_refl _) _).alloc (by simp) _).drew) (Nat.le_refl _)
              have HR3 : Hid (Rd (((wq.alloc (Obj.cells #[.int .i64 (v : Int)] 3)).alloc (Obj.cells #[] 3)).drew) wq.heap.size (some ⟨g, 0, none⟩) l.length c' (fun j => ((l.getD j 0 : Nat) : Int))) := HOq.out.rd.keep ((((Below.refl _ _).alloc (Nat.le_refl _) _).alloc (by simp) _).drew) (Nat.le_refl _)
              have L1 : Hid (wq.heap.size ≤ ((wq.alloc (Obj.cells #[] 3)).drew).heap.size) := by show wq.heap.size ≤ (wq.alloc _).heap.size; simp
              have L2 : Hid (wq.heap.size ≤ (((wq.alloc (Obj.cells #[] 3)).alloc (Obj.cells #[.int .i64 (v : Int)] 3)).drew).heap.size) := by show wq.heap.size ≤ ((wq.alloc _).alloc _).heap.size; simp; omega
              have L3 : Hid (wq.heap.size ≤ (((wq.alloc (Obj.cells #[.int .i64 (v : Int)] 3)).alloc (Obj.cells #[] 3)).drew).heap.size) := by show wq.heap.size ≤ ((wq.alloc _).alloc _).heap.size; simp; omega
              have B2 : Hid ((((wq.alloc (Obj.cells #[] 3)).alloc (Obj.cells #[.int .i64 (v : Int)] 3)).drew).heap[wq.heap.size + 1]? = some (.cells #[.int .i64 (v : Int)] 3 (0, 0)) ∧ wq.heap.size + 1 < (((wq.alloc (Obj.cells #[] 3)).alloc (Obj.cells #[.int .i64 (v : Int)] 3)).drew).heap.size) := by
                have hn := heap_alloc_new (wq.alloc (Obj.cells #[] 3)) (Obj.cells #[.int .i64 (v : Int)] 3)
                have he : (wq.alloc (Obj.cells #[] 3)).heap.size = wq.heap.size + 1 := by simp
                rw [he] at hn
                exact ⟨hn, by show _ < ((wq.alloc _).alloc _).heap.size; simp⟩
              have B3 : Hid ((((wq.alloc (Obj.cells #[.int .i64 (v : Int)] 3)).alloc (Obj.cells #[] 3)).drew).heap[wq.heap.size]? = some (.cells #[.int .i64 (v : Int)] 3 (0, 0)) ∧ wq.heap.size < (((wq.alloc (Obj.cells #[.int .i64 (v : Int)] 3)).alloc (Obj.cells #[] 3)).drew).heap.size) :=
                ⟨(Below.heap_alloc (wq.alloc (Obj.cells #[.int .i64 (v : Int)] 3)) _ _ (by simp)).trans (heap_alloc_new wq _), by show _ < ((wq.alloc _).alloc _).heap.size; simp; omega⟩
              have HC1 : Hid (∀ (z : World) (A1 : Option Addr) (k1 : Nat), Own z wq.heap.size z.heap.size 3 1 A1 l.length k1 (fun j => .int .i64 ((l.getD j 0 : Nat) : Int)) → Own z wq.heap.size z.heap.size 3 1 A1 l.length k1 (ni (l ++ [v]))) := by
                intro z A1 k1 h
                exact h.congr (fun j hj => by rw [ni_left hj]; rfl)
              have hd7 : wq.drew.cell? ⟨w.heap.size, 0, none⟩ = some (.int .i64 m) := y0
              have hd8 : wq.drew.cell? ⟨w.heap.size, 1, none⟩ = some (.slice (some ⟨b, o, none⟩) m c) := y1
              have hd9 : Below wq.heap.size wq wq.drew := (Below.refl _ _).drew
              clear hso
              go_wp2
              go_region_held3 (fun z => z.cell? ⟨w.heap.size, 0, none⟩ = some (.int .i64 m) ∧ z.cell? ⟨w.heap.size, 1, none⟩ = some (.slice (some ⟨b, o, none⟩) m c) ∧ Below wq.heap.size wq z)
                (first | assumption | (refine ⟨?_, ?_, ?_⟩ <;> assumption) | exact HS1.out | exact HS2.out | exact HS3.out | exact HS4.out | (refine KA.out _ _ ?_; assumption) | fail)
                (first
                  | ((refine step_appendG0 _ (by rfl) _ _ (by rfl) (by rfl) HO1.out (by rfl) HR1.out L1.out (by omega) ?_; intro A1 k1 w5 hO5 hb5 hg5; have hS5 := KB.out _ _ HS1.out hb5; have hO5' := HC1.out _ _ _ hO5))
                  | ((refine step_appendG0 _ (by rfl) _ _ (by rfl) (by rfl) HO2.out (by rfl) HR2.out L2.out (by omega) ?_; intro A1 k1 w5 hO5 hb5 hg5; have hS5 := KB.out _ _ HS2.out hb5; have hO5' := HC1.out _ _ _ hO5; have hB5 := (hg5.block (wq.heap.size + 1) B2.out.2 (by simp [Value.ownBlock])).trans B2.out.1))
                  | ((refine step_appendG0 _ (by rfl) _ _ (by rfl) (by rfl) HO3.out (by rfl) HR3.out L3.out (by omega) ?_; intro A1 k1 w5 hO5 hb5 hg5; have hS5 := KB.out _ _ HS3.out hb5; have hO5' := HC1.out _ _ _ hO5; have hB5 := (hg5.block wq.heap.size B3.out.2 (by simp [Value.ownBlock])).trans B3.out.1))
                  | ((refine step_push _ (by rfl) _ _ _ (by rfl) 3 _ 1 8 Tryz.underlying22 info_int rfl (by omega) wq.heap.size w5.heap.size A1 l.length k1 (ni (l ++ [v])) (by rfl) (hO5'.alloc _) (by have := hS5.2.2.size; simp; omega) w5.heap.size #[.int .i64 (v : Int)] 3 (0, 0) 1 (heap_alloc_new w5 _) (by rfl) rfl ni_news (by simp [Value.oneCell']) (by omega) (by omega) ?_; intro g6 cap w6 hp; have hS6 := KB.out _ _ (KA.out _ _ hS5) hp.below))
                  | ((refine step_push _ (by rfl) _ _ _ (by rfl) 3 _ 1 8 Tryz.underlying22 info_int rfl (by omega) wq.heap.size w5.heap.size A1 l.length k1 (ni (l ++ [v])) (by rfl) hO5' hS5.2.2.size (wq.heap.size + 1) #[.int .i64 (v : Int)] 3 (0, 0) 1 hB5 (by rfl) rfl ni_news (by simp [Value.oneCell']) (by omega) (by omega) ?_; intro g6 cap w6 hp; have hS6 := KB.out _ _ hS5 hp.below))
                  | ((refine step_push _ (by rfl) _ _ _ (by rfl) 3 _ 1 8 Tryz.underlying22 info_int rfl (by omega) wq.heap.size w5.heap.size A1 l.length k1 (ni (l ++ [v])) (by rfl) hO5' hS5.2.2.size wq.heap.size #[.int .i64 (v : Int)] 3 (0, 0) 1 hB5 (by rfl) rfl ni_news (by simp [Value.oneCell']) (by omega) (by omega) ?_; intro g6 cap w6 hp; have hS6 := KB.out _ _ hS5 hp.below))
                  | (go_at_call 56; ((with_reducible refine (KI.out _ _ _ (by assumption) hp.own).mono ?_); rintro e w7 ⟨A7, n7, c7, rfl, HP7, hS7⟩))
                  | fail)
              all_goals
                have HB7 : Hid (Below W.heap.size W w7) := HBq.out.trans (HP7.out.1.mono HBq.out.size)
                cases so with
                | none =>
                  have Hn : Hid (at_ (rw_ x) m closed k l v = none) := Hat.out.trans Hso.out.symm
                  clear HP7 hS7 HSq HS1 HS2 HS3 HS4 HO1 HO2 HO3 HR1 HR2 HR3 L1 L2 L3 B2 B3 HC1 KA KB KI hp hS6 hO5 hO5' hb5 hg5 hS5 y0 y1 hd7 hd8 hd9
                  go_wp2
                  refine ⟨⟨v + 1, by omega, by go_num, fun u' hu => ?_, HB7⟩, by simp [intOf] <;> omega⟩
                  by_cases huv : u' < v
                  · exact hall.out u' huv
                  · obtain rfl : u' = v := by omega
                    exact Hn.out
                | some out =>
                  have Hs : Hid (sea (rw_ x) m closed (k + 1) l = some out) := sea_some hlt (Hat.out.trans Hso.out.symm) hall.out
                  obtain ⟨en, hO7⟩ := HP7.out.2 out rfl
                  subst en
                  have HO7 := Lib.hid hO7
                  clear hO7 HP7 hS7 HSq HS1 HS2 HS3 HS4 HO1 HO2 HO3 HR1 HR2 HR3 L1 L2 L3 B2 B3 HC1 KA KB KI hp hS6 hO5 hO5' hb5 hg5 hS5 y0 y1 hd7 hd8 hd9
                  go_wp2
                  go_ret2
                  rw [Hs.out]
                  unfold seaS
                  exact ⟨_, _, rfl, HO7.out, HB.out.trans (HB7.out.mono (by omega))⟩
      · have hn : Hid (sea (rw_ x) m closed (k + 1) l = none) := sea_none fun u hu => hall.out u (by omega)
        have i1 : (m : Int) ≤ (v : Int) := by omega
        have HN : Hid (Own (wr.alloc (Obj.cells #[] 3)) lo (wr.alloc (Obj.cells #[] 3)).heap.size 3 1 (some ⟨wr.heap.size, 0, none⟩) 0 0 (ni [])) :=
          .inr ⟨wr.heap.size, #[], rfl, by omega, by simp, heap_alloc_new wr _, Nat.le_refl _, by unfold maxLen; omega, rfl, fun j hj => absurd hj (by omega)⟩
        go_wp2
        go_ret2
        rw [hn.out]
        unfold seaS
        exact ⟨_, 0, _, rfl, fun _ => ⟨rfl, HN.out⟩, HB.out.trans ((hbr.out.mono (by omega)).alloc (by omega) _)⟩
end Go.Proofs.YtjonhbmgmamchaaGreatDoor
