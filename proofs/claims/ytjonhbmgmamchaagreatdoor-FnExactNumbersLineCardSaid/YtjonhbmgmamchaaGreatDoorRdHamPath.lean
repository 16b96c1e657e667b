/-
  Several texts in one.
-/
import Derived.Test.YtjonhbmgmamchaaGreatDoorRdPackP
import Derived.Deep.RegionHeld3
import Derived.Test.YtjonhbmgmamchaaGreatDoorRdGC
/-
  Contracts: the least dominating set, the greatest packing, their gap, the claim of a packing: the program's.
-/
namespace Go.Proofs.YtjonhbmgmamchaaGreatDoor
open Go.RowKit

section
variable {A : Option Addr} {m c : Nat} {r : Nat → Nat}
set_option maxHeartbeats 1000000 in
theorem FewestDominating_v {w : World} (h : GV w A m c r) :
    Calls Tryz.prog 33 #[.agg #[.int .i64 m, .slice A m c]] w fun e w' => e = .returned (.int .i64 (fdN r m : Nat)) ∧ Below w.heap.size w w' := by
  have hq : Hid (fwI (fwK (domB r m) (2 ^ m)) = (fdN r m : Int)) := by show _ = _; rw [fd_some h.vg]; rfl
  obtain ⟨W, hW⟩ : ∃ W : World, W = (w.alloc (Obj.cells #[Value.int IntKind.i64 m, Value.slice A m c] 27)) := ⟨_, rfl⟩
  have HB : Hid (From w W) := by rw [hW]; exact From.alloc _ _
  have HG : Hid (GBox W w.heap.size A m c r) := by rw [hW]; exact h.box
  have HW := Lib.hid hW
  clear hW h
  have e0 := HG.out.c0
  have e1 := HG.out.c1
  go_enter Tryz.func33, Tryz.ntmps33
  go_wp2_with fail
  rw [← HW.out]
  refine (fewest_g (p := domB r m) (caps := #[]) (ent_of Tryz.func68 (by kernel_rfl) rfl) W HG.out.gv (fun s z hs hb => IsDominating_v (HG.out.gv.keep hb) hs)).mono ?_
  rintro e w1 ⟨rfl, hb1⟩
  clear HW
  clear e0 e1
  replace HB := Lib.hid (HB.out.keep hb1)
  replace HG := Lib.hid (HG.out.keep hb1)
  clear hb1
  have e0 := HG.out.c0
  have e1 := HG.out.c1
  rw [hq.out]
  go_wp2
  go_ret
  exact ⟨rfl, HB.out.below⟩

end

end Go.Proofs.YtjonhbmgmamchaaGreatDoor

/-
  Contracts: the program's search for a path through all vertices.
-/
namespace Go.Proofs.YtjonhbmgmamchaaGreatDoor.hamP
open Go.RowKit

/-- What the search finds: nothing, or a list of its own. -/
def seaP (w : World) (o : Option (List Nat)) (e : Ending) (w' : World) : Prop :=
  match o with
  | none => e = .returned (.slice none 0 0) ∧ Below w.heap.size w w'
  | some out => ∃ g c', e = .returned (.slice (some ⟨g, 0, none⟩) out.length c') ∧ Own w' w.heap.size w'.heap.size 3 1 (some ⟨g, 0, none⟩) out.length c' (ni out) ∧ Below w.heap.size w w'
/-- The captured variables. -/
structure Env (H hg B m c : Nat) (A : Option Addr) (x : Nat → Int) (z : World) : Prop where
  n : z.cell? ⟨H + 1, 0, none⟩ = some (.int .i64 m)
  g0 : z.cell? ⟨H, 0, none⟩ = some (.int .i64 m)
  g1 : z.cell? ⟨H, 1, none⟩ = some (.slice A m c)
  may : z.cell? ⟨H + 2, 0, none⟩ = some (.func (.func 75) #[] #[.pointer (some ⟨hg, 0, none⟩)])
  holds : z.cell? ⟨H + 3, 0, none⟩ = some (.func (.func 77) #[] #[])
  srch : z.cell? ⟨H + 4, 0, none⟩ = some (.func (.func 106) #[] #[.pointer (some ⟨H + 1, 0, none⟩), .pointer (some ⟨H + 3, 0, none⟩), .pointer (some ⟨H, 0, none⟩), .pointer (some ⟨H + 2, 0, none⟩), .pointer (some ⟨H + 4, 0, none⟩)])
  o0 : z.cell? ⟨hg, 0, none⟩ = some (.int .i64 m)
  o1 : z.cell? ⟨hg, 1, none⟩ = some (.slice A m c)
  rd : Rd z B A m c x
  le : B ≤ z.heap.size
theorem Env.keep {H hg B m c : Nat} {A : Option Addr} {x : Nat → Int} {z z' : World} (h : Env H hg B m c A x z) (hb : Below z.heap.size z z') : Env H hg B m c A x z' := by
  have k : ∀ {b o : Nat} {v : Value}, z.cell? ⟨b, o, none⟩ = some v → z'.cell? ⟨b, o, none⟩ = some v := fun e => up hb e (World.block_lt_of_cell? _ _ e)
  exact ⟨k h.n, k h.g0, k h.g1, k h.may, k h.holds, k h.srch, k h.o0, k h.o1, h.rd.keep (hb.mono h.le) (Nat.le_refl _), Nat.le_trans h.le hb.size⟩

set_option maxHeartbeats 1000000 in
theorem may_i (m c : Nat) (A : Option Addr) (x : Nat → Int) (hg B : Nat) (Al : Option Addr) (nl cl : Nat) (l : List Nat) (w : World) (o0 : w.cell? ⟨hg, 0, none⟩ = some (.int .i64 m)) (o1 : w.cell? ⟨hg, 1, none⟩ = some (.slice A m c)) (h : Rd w B A m c x) (hB : B ≤ w.heap.size) (hl : RdN w w.heap.size Al nl cl l) (hok : okB m m x = true) (hlen : l.length ≤ 7) (h0 : l ≠ []) (hall : ∀ v ∈ l, v < m) :
    Calls Tryz.prog 75 #[.slice Al nl cl, .pointer (some ⟨hg, 0, none⟩)] w fun e w' => e = .returned (.bool (wayB (rw_ x) l)) ∧ Below w.heap.size w w' := by
  have HI := Lib.hid (IsWay_i m A c x Al nl cl l w w.heap.size (h.keep (Below.refl _ _) hB) hl (Nat.le_refl _) hok hlen h0 hall)
  clear h hl hok h0 hall
  go_enter Tryz.func75, Tryz.ntmps75
  go_wp2_with fail
  refine HI.out.mono ?_
  rintro e w' ⟨rfl, hb⟩
  have HB := Lib.hid hb
  clear hb
  go_wp2
  go_ret
  exact ⟨rfl, HB.out⟩

theorem holds_i (_l : List Nat) (Al : Option Addr) (nl cl : Nat) (w : World) :
    Calls Tryz.prog 77 #[.slice Al nl cl] w fun e w' => e = .returned (.bool true) ∧ Below w.heap.size w w' := by
  go_enter Tryz.func77, Tryz.ntmps77
  go_wp2
  go_ret
  exact ⟨rfl, Below.refl _ _⟩

set_option maxRecDepth 100000 in
set_option maxHeartbeats 1000000 in
theorem clone_i (b o c : Nat) (l : List Nat) (w : World) (h : Rd w w.heap.size (some ⟨b, o, none⟩) l.length c (fun j => ((l.getD j 0 : Nat) : Int))) (h0 : l ≠ []) (hlen : l.length ≤ 7) :
    Calls Tryz.prog 107 #[.slice (some ⟨b, o, none⟩) l.length c] w fun e w' => ∃ g c', e = .returned (.slice (some ⟨g, 0, none⟩) l.length c') ∧ Own w' w.heap.size w'.heap.size 3 1 (some ⟨g, 0, none⟩) l.length c' (ni l) ∧ Below w.heap.size w w' := by
  have HO : Hid (Own (w.alloc (Obj.cells #[] 3)) w.heap.size (w.heap.size + 1) 3 1 (some ⟨w.heap.size, 0, none⟩) 0 0 (ni [])) :=
    .inr ⟨w.heap.size, #[], rfl, Nat.le_refl _, Nat.lt_succ_self _, heap_alloc_new w _, Nat.le_refl _, by unfold maxLen; omega, rfl, fun j hj => absurd hj (by omega)⟩
  have HR : Hid (Rd (w.alloc (Obj.cells #[] 3)) w.heap.size (some ⟨b, o, none⟩) l.length c (fun j => ((l.getD j 0 : Nat) : Int))) := h.keep ((Below.refl _ _).alloc (Nat.le_refl _) _) (Nat.le_refl _)
  have hpos : 0 < l.length := List.length_pos_iff.2 h0
  have H0 := Lib.hid hpos
  clear h h0 hpos
  have he : ∀ w : World, (binOp .eql 22 (.slice (some ⟨b, o, none⟩) l.length c) (.slice none 0 0)).run Tryz.prog w = .ok (.bool false) w := fun _ => rfl
  go_enter Tryz.func107, Tryz.ntmps107
  go_wp2_with (first | (at_builtin; (refine wpList_appendI _ rfl _ _ rfl rfl HO.out rfl HR.out (by simp) (by omega) (by omega) ?_; intro A' c' w1 hO hb)))
  rw [Nat.zero_add] at hO
  have hO2 := hO.congr (y := ni l) (fun j hj => by unfold thenI ni; simp)
  obtain ⟨g, rfl, _⟩ := hO2.at_ H0.out
  have HO2 := Lib.hid hO2
  have HB : Hid (Below w.heap.size w w1) := ((Below.refl _ _).alloc (Nat.le_refl _) _).trans hb
  clear hO hO2 hb
  go_wp2
  go_ret
  exact ⟨g, c', rfl, HO2.out, HB.out⟩

set_option maxRecDepth 100000 in
set_option maxHeartbeats 3200000 in
theorem search_i (m c : Nat) (A : Option Addr) (x : Nat → Int) (H hg B : Nat) (hok : okB m m x = true) : ∀ (k : Nat) (l : List Nat) (Al : Option Addr) (cl : Nat) (w : World), l.length + k = m → Way (rw_ x) m false l → Env H hg B m c A x w → Rd w w.heap.size Al l.length cl (fun j => ((l.getD j 0 : Nat) : Int)) → (Al = none → l = []) →
    Calls Tryz.prog 106 #[.slice Al l.length cl, .pointer (some ⟨H + 1, 0, none⟩), .pointer (some ⟨H + 3, 0, none⟩), .pointer (some ⟨H, 0, none⟩), .pointer (some ⟨H + 2, 0, none⟩), .pointer (some ⟨H + 4, 0, none⟩)] w (seaP w (sea (rw_ x) m false k l)) := by
  obtain ⟨vg, _⟩ := okB_vg hok
  have hn1 := vg.n1
  have hn7 := vg.n7
  have Hok := Lib.hid hok
  have HV := Lib.hid vg
  clear hok vg
  intro k
  induction k with
  | zero =>
    intro l Al cl w hlm hway hE hR hA
    have hl0 : l ≠ [] := by rintro rfl; simp at hlm; omega
    have e0 := hE.n
    have e1 := hE.holds
    have hpos : 0 < l.length := List.length_pos_iff.2 hl0
    obtain ⟨b, o, rfl, hb, _⟩ := hR.pos hpos
    have HR := Lib.hid hR
    have HE := Lib.hid hE
    have Hway := Lib.hid hway
    have Hl0 := Lib.hid hl0
    have heq : ((l.length : Int) == (m : Int)) = true := by simp; omega
    have heq2 : (l.length = m) = True := by simp; omega
    have hlen7 : l.length ≤ 7 := by omega
    clear hlm hway hE hR hA hl0
    have hf : Hid (sea (rw_ x) m false 0 l = some l) := rfl
    go_enter Tryz.func106, Tryz.ntmps106
    go_wp2_with fail
    refine (holds_i l (some ⟨b, o, none⟩) l.length cl w).mono ?_
    rintro e w1 ⟨rfl, hb1⟩
    have HR1 : Hid (Rd w1 w1.heap.size (some ⟨b, o, none⟩) l.length cl (fun j => ((l.getD j 0 : Nat) : Int))) := HR.out.keep hb1 hb1.size
    have HB1 := Lib.hid hb1
    clear hb1 e0 e1
    go_wp2_with fail
    refine (clone_i b o cl l w1 HR1.out Hl0.out hlen7).mono ?_
    rintro e w2 ⟨g, c', rfl, hO, hb2⟩
    have HO : Hid (Own w2 w.heap.size w2.heap.size 3 1 (some ⟨g, 0, none⟩) l.length c' (ni l)) := hO.mono HB1.out.size (Nat.le_refl _)
    have HB2 : Hid (Below w.heap.size w w2) := HB1.out.trans (hb2.mono HB1.out.size)
    clear hO hb2
    go_wp2
    go_ret
    rw [hf.out]
    unfold seaP
    exact ⟨g, c', rfl, HO.out, HB2.out⟩
  | succ k ih =>
    intro l Al cl w hlm hway hE hR hA
    have IH := Lib.hid ih
    have HE := Lib.hid hE
    have HR := Lib.hid hR
    have Hway := Lib.hid hway
    have HA := Lib.hid hA
    have e0 := hE.n
    have e2 := hE.g0
    have hne : ((l.length : Int) == (m : Int)) = false := by simp; omega
    have hne2 : (l.length = m) = False := by simp; omega
    have hlen7 : l.length ≤ 7 := by omega
    have hcap : l.length ≤ cl := hR.1
    have Hlm := Lib.hid hlm
    clear ih hE hR hway hA hlm
    go_enter Tryz.func106, Tryz.ntmps106
    go_wp2
    go_loopw [22] (fun i wr => ∃ v : Nat, v ≤ m ∧ i = .int .i64 v ∧ Hid (∀ u, u < v → at_ (rw_ x) m false k l u = none) ∧ Hid (Below w.heap.size w wr)) (fun i _ => m - (intOf i).toNat)
    case atStart => exact ⟨0, Nat.zero_le _, rfl, (fun u hu => absurd hu (by omega)), Below.refl _ _⟩
    case round =>
      obtain ⟨v, hv, rfl, hall, hbr⟩ := hrel
      have zr := hbr.out.size
      by_cases hlt : v < m
      · have HE2 := Lib.hid (HE.out.keep hbr.out)
        have HR2 : Hid (Rd wr wr.heap.size Al l.length cl (fun j => ((l.getD j 0 : Nat) : Int))) := HR.out.keep hbr.out zr
        have i1 : (v : Int) < (m : Int) := by omega
        have hcap2 : (l.length : Int) ≤ (cl : Int) := by omega
        have HRl : Hid (Rd wr wr.heap.size Al l.length l.length (fun j => ((l.getD j 0 : Nat) : Int))) := ⟨Nat.le_refl _, HR2.out.2⟩
        go_wp2_with (first | (at_builtin; (refine wpList_moreN wr rfl _ _ rfl wr.heap.size Al l HA.out HRl.out (Nat.le_refl _) v rfl 1 wr.heap.size rfl rfl (by omega) ?_; intro g cap w3 hO3 hb3)))
        have HO3 : Hid (Rd w3 w3.heap.size (some ⟨g, 0, none⟩) (l.length + 1) cap (fun j => (((l ++ [v]).getD j 0 : Nat) : Int))) := hO3.rd
        have HB3 : Hid (Below w.heap.size w w3) := hbr.out.trans (hb3.mono zr)
        have HE3 := Lib.hid (HE.out.keep HB3.out)
        have HR3 : Hid (Rd w3 w3.heap.size Al l.length cl (fun j => ((l.getD j 0 : Nat) : Int))) := HR.out.keep HB3.out HB3.out.size
        have hla : (l ++ [v]).length = l.length + 1 := by rw [List.length_append]; rfl
        have Hla := Lib.hid hla
        have e3 := HE3.out.may
        have e4 := HE3.out.srch
        clear hO3 hb3 HE2 HR2 HRl hbr hla
        by_cases hvl : v ∈ l
        · have Hn : Hid (at_ (rw_ x) m false k l v = none) := at_no (cnd_in hvl)
          go_wp2_with fail
          refine (Contains_i Al l.length cl l v w3 w3.heap.size ⟨rfl, HR3.out⟩ (by omega)).mono ?_
          rintro e w' ⟨rfl, rfl⟩
          rw [decide_eq_true hvl]
          clear hvl e3 e4
          go_wp2
          refine ⟨⟨v + 1, by omega, by go_num, fun u hu => ?_, HB3⟩, by simp [intOf] <;> omega⟩
          by_cases huv : u < v
          · exact hall.out u huv
          · obtain rfl : u = v := by omega
            exact Hn.out
        · have Hc : Hid (cnd (rw_ x) false l v = wayB (rw_ x) (l ++ [v])) := cnd_path Hway.out hvl
          have Hne : Hid (l ++ [v] ≠ []) := by show l ++ [v] ≠ []; simp
          have Hlt : Hid (∀ u ∈ l ++ [v], u < m) := by
            intro u hu
            rw [List.mem_append, List.mem_singleton] at hu
            rcases hu with hu | rfl
            · exact Hway.out.lt u hu
            · exact hlt
          have hl7 : (l ++ [v]).length ≤ 7 := by rw [Hla.out]; have := Hlm.out; omega
          go_wp2_with fail
          refine (Contains_i Al l.length cl l v w3 w3.heap.size ⟨rfl, HR3.out⟩ (by omega)).mono ?_
          rintro e w' ⟨rfl, rfl⟩
          rw [decide_eq_false hvl]
          clear hvl
          have KM := Lib.hid (may_i m c A x hg B (some ⟨g, 0, none⟩) (l.length + 1) cap (l ++ [v]) w3 HE3.out.o0 HE3.out.o1 HE3.out.rd HE3.out.le ⟨Hla.out.symm, HO3.out⟩ Hok.out hl7 Hne.out Hlt.out)
          clear hl7
          go_wp2_with fail
          refine KM.out.mono ?_
          rintro e w4 ⟨rfl, hb4⟩
          rw [← Hc.out]
          have HB4 : Hid (Below w.heap.size w w4) := HB3.out.trans (hb4.mono HB3.out.size)
          have HE4 := Lib.hid (HE.out.keep HB4.out)
          have e5 := HE4.out.srch
          have HO4 : Hid (Rd w4 w4.heap.size (some ⟨g, 0, none⟩) (l.length + 1) cap (fun j => (((l ++ [v]).getD j 0 : Nat) : Int))) := HO3.out.keep hb4 hb4.size
          clear hb4 KM e3 e4
          cases hc : cnd (rw_ x) false l v
          · have Hn : Hid (at_ (rw_ x) m false k l v = none) := at_no hc
            clear hc e5
            go_wp2
            refine ⟨⟨v + 1, by omega, by go_num, fun u hu => ?_, HB4⟩, by simp [intOf] <;> omega⟩
            by_cases huv : u < v
            · exact hall.out u huv
            · obtain rfl : u = v := by omega
              exact Hn.out
          · have Hat : Hid (at_ (rw_ x) m false k l v = sea (rw_ x) m false k (l ++ [v])) := at_yes hc
            have KI := Lib.hid (IH.out (l ++ [v]) (some ⟨g, 0, none⟩) cap w4 (by rw [Hla.out]; have := Hlm.out; omega) (Hway.out.snoc hlt hc) HE4.out (by rw [Hla.out]; exact HO4.out) (fun e => by cases e))
            rw [Hla.out] at KI
            clear hc
            go_wp2_with fail
            refine KI.out.mono ?_
            intro e w5 hp
            cases hs : sea (rw_ x) m false k (l ++ [v]) with
            | none =>
              rw [hs] at hp
              obtain ⟨rfl, hb5⟩ := hp
              have Hn : Hid (at_ (rw_ x) m false k l v = none) := Hat.out.trans hs
              have HB5 : Hid (Below w.heap.size w w5) := HB4.out.trans (hb5.mono HB4.out.size)
              clear hs hb5 e5 KI
              go_wp2
              refine ⟨⟨v + 1, by omega, by go_num, fun u hu => ?_, HB5⟩, by simp [intOf] <;> omega⟩
              by_cases huv : u < v
              · exact hall.out u huv
              · obtain rfl : u = v := by omega
                exact Hn.out
            | some out =>
              rw [hs] at hp
              obtain ⟨g5, c5, rfl, hO5, hb5⟩ := hp
              have Hs : Hid (sea (rw_ x) m false (k + 1) l = some out) := sea_some hlt (Hat.out.trans hs) hall.out
              have HB5 : Hid (Below w.heap.size w w5) := HB4.out.trans (hb5.mono HB4.out.size)
              have HO5 : Hid (Own w5 w.heap.size w5.heap.size 3 1 (some ⟨g5, 0, none⟩) out.length c5 (ni out)) := hO5.mono HB4.out.size (Nat.le_refl _)
              clear hs hO5 hb5 e5 KI
              go_wp2
              go_ret
              rw [Hs.out]
              unfold seaP
              exact ⟨g5, c5, rfl, HO5.out, HB5.out⟩
      · have hn : Hid (sea (rw_ x) m false (k + 1) l = none) := sea_none fun u hu => hall.out u (by omega)
        have i1 : (m : Int) ≤ (v : Int) := by omega
        go_wp2
        go_ret
        rw [hn.out]
        unfold seaP
        exact ⟨rfl, hbr.out⟩
end Go.Proofs.YtjonhbmgmamchaaGreatDoor.hamP
