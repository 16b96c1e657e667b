/-
-/
import Derived.Test.YtppkokgiojcgbaaGreatDoorQxCloI
import Derived.Test.YtppkokgiojcgbaaGreatDoorQxGC
import Derived.Test.YtppkokgiojcgbaaGreatDoorQxThoB
import Derived.Test.YtppkokgiojcgbaaGreatDoorQxPthI
import Derived.StillTailTactics
namespace Go.Proofs.YtppkokgiojcgbaaGreatDoor
open Go.RowKit
noncomputable def clO (r : Nat → Nat) (m : Nat) : Option (List Nat) := if elimB r (2 ^ m - 1) = true then cqS (mqL r m) (mqL r m).length [] else none
noncomputable def ivG (sz : Int) (m : Nat) (x : Nat → Int) : Bool := okB sz m x && (clO (rw_ x) m).isSome
theorem ivG_no {sz : Int} {m : Nat} {x : Nat → Int} (h : okB sz m x = false) : ivG sz m x = false := by unfold ivG; rw [h]; rfl
theorem ivG_yes {sz : Int} {m : Nat} {x : Nat → Int} (h : okB sz m x = true) : ivG sz m x = (clO (rw_ x) m).isSome := by unfold ivG; rw [h]; rfl
structure EnvC (z : World) (o hv q : Nat) (Q : List Nat) (Aq : Option Addr) (cq : Nat) : Prop where
 ql : LN z Aq cq Q
 cl : z.cell? ⟨q, 0, none⟩ = some (.slice Aq Q.length cq)
 vis : z.cell? ⟨hv, 0, none⟩ = some (.func (.func 225) #[] #[.pointer (some ⟨o, 0, none⟩)])
 srch : z.cell? ⟨q + 1, 0, none⟩ = some (.func (.func 265) #[] #[.pointer (some ⟨q, 0, none⟩), .pointer (some ⟨hv, 0, none⟩), .pointer (some ⟨q + 1, 0, none⟩)])
 out : z.cell? ⟨o, 0, none⟩ = some (.slice none 0 0)
 fz : z.frozen? ⟨o, 0, none⟩ = false
theorem EnvC.keep {z z' : World} {o hv q : Nat} {Q : List Nat} {Aq : Option Addr} {cq : Nat} (h : EnvC z o hv q Q Aq cq) (hb : Below z.heap.size z z') : EnvC z' o hv q Q Aq cq :=
 ⟨h.ql.keep hb, up_ hb h.cl, up_ hb h.vis, up_ hb h.srch, up_ hb h.out, upf hb h.fz (World.block_lt_of_cell? _ _ h.out)⟩
theorem EnvC.drew {z : World} {o hv q : Nat} {Q : List Nat} {Aq : Option Addr} {cq : Nat} (h : EnvC z o hv q Q Aq cq) : EnvC z.drew o hv q Q Aq cq := h.keep (Below.refl _ _).drew
def cqR (w : World) (o : Nat) : Option (List Nat) → Ending → World → Prop
 | none, e, w' => e = .returned (.bool true) ∧ Below w.heap.size w w'
 | some x, e, w' => e = .returned (.bool false) ∧ (∃ g c, w'.cell? ⟨o, 0, none⟩ = some (.slice (some ⟨g, 0, none⟩) x.length c) ∧ ON (o + 1) w' (some ⟨g, 0, none⟩) c x) ∧ Fr o (o + 1) w w'
theorem visit_q (A : Option Addr) (n c o : Nat) (z : World) {u : Value} (h : z.cell? ⟨o, 0, none⟩ = some u) (hf : z.frozen? ⟨o, 0, none⟩ = false) :
 Calls Tryz.prog 225 #[.slice A n c, .pointer (some ⟨o, 0, none⟩)] z fun e w' => e = .returned (.bool false) ∧ w' = z.setCell ⟨o, 0, none⟩ (.slice A n c) := by
 go_enter Tryz.func225, Tryz.ntmps225
 go_wp2
 go_ret
 exact ⟨rfl, rfl⟩
theorem cell_set1 {w : World} {o : Nat} {u v : Value} (h : w.cell? ⟨o, 0, none⟩ = some u) : (w.setCell ⟨o, 0, none⟩ v).cell? ⟨o, 0, none⟩ = some v := by simp [go_sem, h]
theorem fr1 (w : World) (q : Nat) (x : Value) : Fr q (q + 1) w (w.setCell ⟨q, 0, none⟩ x) := (Fr.refl _ _ w).setCell (p := ⟨q, 0, none⟩) (Nat.le_refl _) (Nat.lt_succ_self _) _
section
variable {o hv q : Nat} {Q : List Nat} {Aq : Option Addr} {cq : Nat}
set_option maxRecDepth 100000 in
set_option maxHeartbeats 6400000 in
theorem search_q (hQ0 : Q ≠ []) (hQ : ∀ s ∈ Q, s < 128) (hQl : Q.length ≤ 128) : ∀ (k : Nat) (l : List Nat) (Al : Option Addr) (cl : Nat) (w : World), l.length + k = Q.length → (∀ s ∈ l, s < 128) → EnvC w o hv q Q Aq cq → LN w Al cl l → (Al = none → l = []) →
 Calls Tryz.prog 265 #[.slice Al l.length cl, .pointer (some ⟨q, 0, none⟩), .pointer (some ⟨hv, 0, none⟩), .pointer (some ⟨q + 1, 0, none⟩)] w (cqR w o (cqS Q k l)) := by
 have HQ := Lib.hid hQ
 have HEv := (ent_of Tryz.func225 (by kernel_rfl) rfl)
 have HEs := (ent_of Tryz.func265 (by kernel_rfl) rfl)
 unfold Ent at HEv HEs
 intro k
 induction k with
 | zero =>
   intro l Al cl w hlk hlt hE hl hA
   have hl0 : l ≠ [] := by
    rintro rfl
    exact hQ0 (List.length_eq_zero_iff.1 (by simpa using hlk.symm))
   have e0 := hE.cl
   have e1 := hE.vis
   have hpos : 0 < l.length := List.length_pos_iff.2 hl0
   have HOlt : Hid (o < w.heap.size) := World.block_lt_of_cell? _ _ hE.out
   have HOV : Hid (hv ≠ o) := by
    rintro rfl
    have h1 := hE.vis
    rw [hE.out] at h1
    cases h1
   have HEd : Hid (EnvC w.drew o hv q Q Aq cq) := hE.drew
   have HLd : Hid (LN w.drew Al cl l) := hl.keep (Below.refl _ _).drew
   have KC : Hid (Calls Tryz.prog 164 #[.slice Al l.length cl] w.drew fun e w' => ∃ g c', e = .returned (.slice (some ⟨g, 0, none⟩) l.length c') ∧ ON w.heap.size w' (some ⟨g, 0, none⟩) c' l ∧ Below w.drew.heap.size w.drew w') := clone_z Al cl l w.drew HLd.out hl0 (by omega)
   have heq : ((l.length : Int) == (Q.length : Int)) = true := by simp; omega
   have heq2 : (l.length = Q.length) = True := by simp; omega
   have hf : Hid (cqS Q 0 l = some l) := rfl
   clear hlk hlt hE hl hA hl0
   go_enter Tryz.func265, Tryz.ntmps265
   go_wp2
   have HSw : Hid (w.drew.cell? ⟨hv, 0, none⟩ = some (.func (.func 225) #[] #[.pointer (some ⟨o, 0, none⟩)])) := HEd.out.vis
   clear e0 e1 heq heq2 hpos
   refine wp_region_held_drew (S := fun z => z.cell? ⟨hv, 0, none⟩ = some (.func (.func 225) #[] #[.pointer (some ⟨o, 0, none⟩)])) (by kernel_rfl) HSw.out (fun hHeld => ?_)
   refine pcY 0 rfl rfl (by kernel_rfl) (by rfl) (by intro w u; (try dsimp only at u); go_simp <;> with_reducible rfl) ‹_› (fun _ _ _ h => h) ?_; simp only [Act.put, sl0, sl1, sl2]
   refine ptY rfl rfl (by kernel_rfl) (by rfl) (by intro w u; (try dsimp only at u); go_simp <;> with_reducible rfl) ‹_› (fun _ _ _ h => h) ?_; simp only [Act.put, sl0, sl1, sl2]
   refine wpAnyH_ready (rs := [2]) (by kernel_rfl) (by simp) ?_
   refine AllReadyH.cons rfl (fun K hK => ?_) AllReadyH.nil
   go_simp
   go_at_call 164; refine (KC.out).mono ?_
   rintro e w2 ⟨g, c2, rfl, ho2, hb2⟩
   have HE2 := Lib.hid (HEd.out.keep hb2)
   have HO2 := Lib.hid ho2
   have HB2 : Hid (Below w.heap.size w w2) := bl_trans (Below.refl w.heap.size w).drew hb2
   have d0 := HE2.out.out
   have d1 := HE2.out.fz
   have KV := Lib.hid (visit_q (some ⟨g, 0, none⟩) l.length c2 o w2 d0 d1)
   have HS2 : Hid ((w2.setCell ⟨o, 0, none⟩ (.slice (some ⟨g, 0, none⟩) l.length c2)).cell? ⟨o, 0, none⟩ = some (.slice (some ⟨g, 0, none⟩) l.length c2)) := cell_set1 d0
   refine hK.out _ _ HE2.out.vis (fun hHeld => ?_)
   clear hK K
   try simp only [Act.put, sl0, sl1, sl2]
   refine wpAnyH_ready (rs := [3]) (by kernel_rfl) (by simp) ?_
   refine AllReadyH.cons rfl (fun K hK => ?_) AllReadyH.nil
   go_simp
   refine (KV.out).mono ?_
   rintro e w3 ⟨rfl, rfl⟩
   have HS3 : Hid ((w2.setCell ⟨o, 0, none⟩ (.slice (some ⟨g, 0, none⟩) l.length c2)).cell? ⟨hv, 0, none⟩ = some (.func (.func 225) #[] #[.pointer (some ⟨o, 0, none⟩)])) := (fr1 w2 o _).cell (p := ⟨hv, 0, none⟩) (World.block_lt_of_cell? _ _ HE2.out.vis) (by have hov := HOV.out; show hv < o ∨ o + 1 ≤ hv; omega) |>.trans HE2.out.vis
   refine hK.out _ _ HS3.out (fun hHeld => ?_)
   clear hK K
   try simp only [Act.put, sl0, sl1, sl2]
   refine ptY rfl rfl (by kernel_rfl) (by rfl) (by intro w u; (try dsimp only at u); go_simp <;> with_reducible rfl) ‹_› (fun _ _ _ h => h) ?_; simp only [Act.put, sl0, sl1, sl2]
   refine wpAnyH_done (by kernel_rfl) ?_ _
   clear KC KV hb2 ho2 d0 d1
   go_wp2
   go_ret
   rw [hf.out]
   have F := fr1 w2 o (.slice (some ⟨g, 0, none⟩) l.length c2)
   have ho := HOlt.out
   exact ⟨rfl, ⟨g, c2, HS2.out, ⟨(HO2.out.own.keep F (.inr (by omega))).mono (by omega) F.size⟩⟩, (Fr.of_below HB2.out).trans F⟩
 | succ k ih =>
   intro l Al cl w hlk hlt hE hl hA
   have IH := Lib.hid ih
   have HE := Lib.hid hE
   have HL := Lib.hid hl
   have Hlt := Lib.hid hlt
   have HA := Lib.hid hA
   have e0 := hE.cl
   have hne : ((l.length : Int) == (Q.length : Int)) = false := by simp; omega
   have hne2 : (l.length = Q.length) = False := by simp; omega
   have hcap : l.length ≤ cl := hl.le
   have hl7 : l.length ≤ 128 := by omega
   have Hlk := Lib.hid hlk
   clear ih hE hl hlt hA hlk
   go_enter Tryz.func265, Tryz.ntmps265
   go_wp2
   go_loopw [20] (fun i wr => ∃ v : Nat, v ≤ Q.length ∧ i = .int .i64 v ∧ Hid (∀ u, u < v → cqA Q k l u = none) ∧ Hid (From w wr)) (fun i _ => Q.length - (intOf i).toNat)
   case atStart => exact ⟨0, Nat.zero_le _, rfl, (fun u hu => absurd hu (by omega)), From.refl _⟩
   case round =>
    obtain ⟨j, hj, rfl, hall, HR⟩ := hrel
    have zr := HR.out.below.size
    by_cases hjl : j < Q.length
    ·have i1 : (j : Int) < (Q.length : Int) := by omega
     have hcap2 : (l.length : Int) ≤ (cl : Int) := by omega
     have HEr := Lib.hid (HE.out.keep HR.out.below)
     have HLr := Lib.hid (HL.out.keep HR.out.below)
     have HRl : Hid (Rd wr wr.heap.size Al l.length l.length (fun j => ((l.getD j 0 : Nat) : Int))) := ⟨Nat.le_refl _, HLr.out.rd.2⟩
     obtain ⟨b0, o0, rfl⟩ := HEr.out.ql.addr (by omega)
     have p0 := HEr.out.ql.cell hjl
     have hv' : Q.getD j 0 < 128 := by
      have e : Q.getD j 0 = Q[j] := by simp [List.getD, hjl]
      rw [e]; exact HQ.out _ (List.getElem_mem _)
     have Hno : Hid (okQ l (Q.getD j 0) = false → cqA Q k l j = none) := fun h => cqA_no h
     have Hyes : Hid (okQ l (Q.getD j 0) = true → cqA Q k l j = cqS Q k (l ++ [Q.getD j 0])) := fun h => cqA_yes h
     obtain ⟨v, hv0⟩ : ∃ v, v = Q.getD j 0 := ⟨_, rfl⟩
     rw [← hv0] at p0 hv' Hno Hyes
     clear hv0
     have Hnext : Hid (cqA Q k l j = none → ∀ u, u < j + 1 → cqA Q k l u = none) := fun h u hu => by
      by_cases huj : u < j
      ·exact hall.out u huj
      ·obtain rfl : u = j := by omega
       exact h
     go_wp2_with (first | (at_builtin; (refine wpList_moreN wr rfl _ _ rfl wr.heap.size Al l HA.out HRl.out (Nat.le_refl _) v rfl 1 wr.heap.size rfl rfl (by omega) ?_; intro g cap w3 hO3 hb3)))
     have z3 := hb3.size
     have HR3 : Hid (From w w3) := HR.out.keep hb3
     have HE3 := Lib.hid (HEr.out.keep hb3)
     have HL3 := Lib.hid (HLr.out.keep hb3)
     have hla : (l ++ [v]).length = l.length + 1 := by rw [List.length_append]; rfl
     have HN3 : Hid (LN w3 (some ⟨g, 0, none⟩) cap (l ++ [v])) := ⟨by rw [hla]; exact hO3.rd⟩
     have Hla := Lib.hid hla
     clear hO3 hb3 HRl hla p0 HEr HLr
     have KC := Lib.hid (Contains_i Al l.length cl l v w3 w3.heap.size ⟨rfl, HL3.out.rd⟩ (by omega))
     by_cases hvl : v ∈ l
     ·have Hn := Lib.hid (Hnext.out (Hno.out (okQ_in hvl)))
      rw [decide_eq_true hvl] at KC
      clear hvl
      go_wp2_with fail
      refine KC.out.mono ?_
      rintro e w' ⟨rfl, rfl⟩
      go_wp2
      go_roundw
      case rel => exact ⟨j + 1, by omega, by go_num, Hn, HR3⟩
      case measure => (simp [intOf] <;> omega)
     ·have Hc : Hid (okQ l v = foB (l ++ [v])) := okQ_out hvl
      have Hlt2 : Hid (∀ u ∈ l ++ [v], u < 128) := by
       intro u hu
       rw [List.mem_append, List.mem_singleton] at hu
       rcases hu with hu | rfl
       ·exact Hlt.out u hu
       ·exact hv'
      rw [decide_eq_false hvl] at KC
      clear hvl
      go_wp2_with fail
      refine KC.out.mono ?_
      rintro e w' ⟨rfl, rfl⟩
      have KF := Lib.hid (follow_v HN3.out Hlt2.out (by rw [Hla.out]; omega))
      rw [Hla.out] at KF
      clear KC
      cases hf : foB (l ++ [v])
      ·have Hn := Lib.hid (Hnext.out (Hno.out (Hc.out.trans hf)))
       rw [hf] at KF
       clear hf
       go_wp2_with fail
       refine KF.out.mono ?_
       rintro e w4 ⟨rfl, hb4⟩
       have HR4 : Hid (From w w4) := HR3.out.keep hb4
       clear hb4 KF
       go_wp2
       go_roundw
       case rel => exact ⟨j + 1, by omega, by go_num, Hn, HR4⟩
       case measure => (simp [intOf] <;> omega)
      ·have Hy := Lib.hid (Hyes.out (Hc.out.trans hf))
       rw [hf] at KF
       clear hf
       go_wp2_with fail
       refine KF.out.mono ?_
       rintro e w4 ⟨rfl, hb4⟩
       have HR4 : Hid (From w w4) := HR3.out.keep hb4
       have HE4 := Lib.hid (HE3.out.keep hb4)
       have HN4 := Lib.hid (HN3.out.keep hb4)
       have e5 := HE4.out.srch
       have KI := Lib.hid (IH.out (l ++ [v]) (some ⟨g, 0, none⟩) cap w4 (by rw [Hla.out]; have := Hlk.out; omega) Hlt2.out HE4.out HN4.out (fun e => by cases e))
       rw [Hla.out] at KI
       clear hb4 KF HE3 HL3 HN3
       obtain ⟨so, hso⟩ : ∃ so, so = cqS Q k (l ++ [v]) := ⟨_, rfl⟩
       rw [← hso] at KI Hy
       clear hso
       cases so with
       | none =>
         have Hn := Lib.hid (Hnext.out Hy.out)
         go_wp2_with fail
         refine KI.out.mono ?_
         rintro e w5 ⟨rfl, hb5⟩
         have HR5 : Hid (From w w5) := HR4.out.keep hb5
         clear hb5 KI e5
         go_wp2
         go_roundw
         case rel => exact ⟨j + 1, by omega, by go_num, Hn, HR5⟩
         case measure => (simp [intOf] <;> omega)
       | some x =>
         have Hs : Hid (cqS Q (k + 1) l = some x) := cqS_some hjl Hy.out hall.out
         go_wp2_with fail
         refine KI.out.mono ?_
         rintro e w5 ⟨rfl, hx5, hf5⟩
         have HX5 := Lib.hid hx5
         have HF5 : Hid (Fr o (o + 1) w w5) := (Fr.of_below HR4.out.below).trans hf5
         clear hx5 hf5 KI e5
         go_wp2
         go_ret
         rw [Hs.out]
         exact ⟨rfl, HX5.out, HF5.out⟩
    ·have Hn : Hid (cqS Q (k + 1) l = none) := cqS_none fun u hu => hall.out u (by omega)
     have i1 : (Q.length : Int) ≤ (j : Int) := by omega
     go_wp2
     go_ret
     rw [Hn.out]
     exact ⟨rfl, HR.out.below⟩
end
def clR (w : World) (o : Nat) : Option (List Nat) → World → Prop
 | none, w' => Below w.heap.size w w'
 | some x, w' => (∃ g c, w'.cell? ⟨o, 0, none⟩ = some (.slice (some ⟨g, 0, none⟩) x.length c) ∧ ON (o + 1) w' (some ⟨g, 0, none⟩) c x) ∧ Fr o (o + 1) w w'
section
variable {A : Option Addr} {m c : Nat} {r : Nat → Nat} {w : World}
theorem IsChordal_v (h : GV w A m c r) : Calls Tryz.prog 128 #[.agg #[.int .i64 m, .slice A m c]] w fun e w' => e = .returned (.bool (elimB r (2 ^ m - 1))) ∧ Below w.heap.size w w' := by
 have := IsChordal_ix (m : Int) A m c (fun v => (r v : Int)) w w.heap.size h.rd (Nat.le_refl _) (by have := h.vg.n7; omega)
 rwa [chB_eq h.ok (b := elimB r (2 ^ m - 1)) (by rw [rw_cast])] at this
set_option maxRecDepth 100000 in
set_option maxHeartbeats 3200000 in
theorem cliqueOrders_v (h : GV w A m c r) {o : Nat} (ho : w.cell? ⟨o, 0, none⟩ = some (.slice none 0 0)) (hf : w.frozen? ⟨o, 0, none⟩ = false) :
 Calls Tryz.prog 224 #[.agg #[.int .i64 m, .slice A m c], .func (.func 225) #[] #[.pointer (some ⟨o, 0, none⟩)]] w fun e w' => e = .returned (.tuple #[]) ∧ clR w o (clO r m) w' := by
 have hn7 := h.vg.n7
 have h128 := two_pow_le hn7
 have HQ0 := Lib.hid (mqL_ne h.vg)
 have HQ1 : Hid (∀ s ∈ mqL r m, s < 128) := fun s hs => by have := (mem_mqL.1 hs).1; omega
 have HQ2 : Hid ((mqL r m).length ≤ 128) := by
  have := mqK_len r m (2 ^ m)
  show (mqK r m (2 ^ m)).length ≤ 128
  omega
 have Hdef : Hid (clO r m = if elimB r (2 ^ m - 1) = true then cqS (mqL r m) (mqL r m).length [] else none) := rfl
 obtain ⟨Q, hQ⟩ : ∃ Q, Q = mqL r m := ⟨_, rfl⟩
 have HEs := (ent_of Tryz.func265 (by kernel_rfl) rfl)
 unfold Ent at HEs
 obtain ⟨W, hW⟩ : ∃ W : World, W = ((w.alloc (Obj.cells #[Value.int IntKind.i64 m, Value.slice A m c] 29)).alloc (Obj.cells #[.func (.func 225) #[] #[.pointer (some ⟨o, 0, none⟩)]] 173)) := ⟨_, rfl⟩
 have HB : Hid (From w W) := by rw [hW]; exact (From.alloc _ _).alloc_ _
 have HG : Hid (GBox W w.heap.size A m c r) := by rw [hW]; exact h.box.keep ((Below.refl _ _).alloc (Nat.le_refl _) _)
 have HV : Hid (CL W (w.heap.size + 1) 0 (.func (.func 225) #[] #[.pointer (some ⟨o, 0, none⟩)])) := by rw [hW]; constructor; simp [go_sem]
 have HO : Hid (CL W o 0 (.slice none 0 0)) := ⟨up_ HB.out.below ho⟩
 have HF : Hid (W.frozen? ⟨o, 0, none⟩ = false) := upf HB.out.below hf (World.block_lt_of_cell? _ _ ho)
 have HW := Lib.hid hW
 clear hW h ho hf
 go_enter Tryz.func224, Tryz.ntmps224
 have e0 := HG.out.c0
 have e1 := HG.out.c1
 go_wp2_with fail
 rw [← HW.out]
 clear HW
 refine (MaximalCliques_v HG.out.gv).mono ?_
 rintro e w1 ⟨Aq, cq, rfl, ho1, hb1⟩
 rw [← hQ] at ho1 HQ0 HQ1 HQ2 Hdef ⊢
 clear hQ
 have HF1 : Hid (w1.frozen? ⟨o, 0, none⟩ = false) := upf hb1 HF.out (World.block_lt_of_cell? _ _ HO.out.c)
 have HL1 := Lib.hid ho1.ln
 clear e0 e1
 replace HB := Lib.hid (HB.out.keep hb1)
 replace HV := Lib.hid (HV.out.keep hb1)
 replace HO := Lib.hid (HO.out.keep hb1)
 replace HG := Lib.hid (HG.out.keep hb1)
 clear hb1 ho1 HF
 have e0 := HG.out.c0
 have e1 := HG.out.c1
 obtain ⟨W2, hW2⟩ : ∃ W : World, W = ((w1.alloc (Obj.cells #[.slice Aq Q.length cq] 22)).alloc (Obj.cells #[.func (.func 265) #[] #[.pointer (some ⟨w1.heap.size, 0, none⟩), .pointer (some ⟨w.heap.size + 1, 0, none⟩), .pointer (some ⟨w1.heap.size + 1, 0, none⟩)]] 173)) := ⟨_, rfl⟩
 have hb2 : Below w1.heap.size w1 W2 := by rw [hW2]; exact ((Below.refl _ _).alloc (Nat.le_refl _) _).alloc (by simp) _
 have HC2 : Hid (CL W2 w1.heap.size 0 (.slice Aq Q.length cq)) := by rw [hW2]; constructor; simp [go_sem]
 have HS2 : Hid (CL W2 (w1.heap.size + 1) 0 (.func (.func 265) #[] #[.pointer (some ⟨w1.heap.size, 0, none⟩), .pointer (some ⟨w.heap.size + 1, 0, none⟩), .pointer (some ⟨w1.heap.size + 1, 0, none⟩)])) := by rw [hW2]; constructor; simp [go_sem]
 have HF2 : Hid (W2.frozen? ⟨o, 0, none⟩ = false) := upf hb2 HF1.out (World.block_lt_of_cell? _ _ HO.out.c)
 have HL2 := Lib.hid (HL1.out.keep hb2)
 have HW2 := Lib.hid hW2
 have hlt1 := HG.out.lt
 clear hW2
 go_wp2_with fail
 rw [← HW2.out]
 clear e0 e1
 replace HB := Lib.hid (HB.out.keep hb2)
 replace HV := Lib.hid (HV.out.keep hb2)
 replace HO := Lib.hid (HO.out.keep hb2)
 replace HG := Lib.hid (HG.out.keep hb2)
 clear hb2 HL1 HF1 HW2 hlt1
 have e0 := HG.out.c0
 have e1 := HG.out.c1
 refine (IsChordal_v HG.out.gv).mono ?_
 rintro e w3 ⟨rfl, hb3⟩
 have HF3 : Hid (w3.frozen? ⟨o, 0, none⟩ = false) := upf hb3 HF2.out (World.block_lt_of_cell? _ _ HO.out.c)
 have HE3 : Hid (EnvC w3 o (w.heap.size + 1) w1.heap.size Q Aq cq) := ⟨HL2.out.keep hb3, up_ hb3 HC2.out.c, up_ hb3 HV.out.c, up_ hb3 HS2.out.c, up_ hb3 HO.out.c, HF3.out⟩
 clear e0 e1
 replace HB := Lib.hid (HB.out.keep hb3)
 replace HV := Lib.hid (HV.out.keep hb3)
 replace HO := Lib.hid (HO.out.keep hb3)
 replace HG := Lib.hid (HG.out.keep hb3)
 clear hb3 HF2 HF3 HC2 HS2 HL2
 have e0 := HG.out.c0
 have e1 := HG.out.c1
 obtain ⟨ch, hch⟩ : ∃ ch, ch = elimB r (2 ^ m - 1) := ⟨_, rfl⟩
 rw [← hch] at Hdef ⊢
 clear hch
 cases ch
 ·have Hn : Hid (clO r m = none) := Hdef.out
  go_wp2
  go_end0
  rw [Hn.out]
  exact ⟨rfl, HB.out.below⟩
 ·have Hn : Hid (clO r m = cqS Q Q.length []) := Hdef.out
  have hs := HE3.out.srch
  have KI := Lib.hid (search_q HQ0.out HQ1.out HQ2.out Q.length [] none 0 w3 (by simp) (fun s h => by cases h) HE3.out ⟨⟨Nat.le_refl _, fun h => absurd h (by simp)⟩⟩ (fun _ => rfl))
  rw [show ([] : List Nat).length = 0 from rfl] at KI
  obtain ⟨so, hso⟩ : ∃ so, so = cqS Q Q.length [] := ⟨_, rfl⟩
  rw [← hso] at KI Hn
  clear hso e0 e1 HQ0 HQ1 HQ2 Hdef
  go_wp2_with fail
  refine KI.out.mono ?_
  rintro e w4 hq
  have HQ4 := Lib.hid hq
  clear hq KI
  cases so with
  | none =>
    obtain ⟨rfl, hb4⟩ := HQ4.out
    have HB4 : Hid (Below w.heap.size w w4) := bl_trans HB.out.below hb4
    clear hb4 HQ4
    go_wp2
    go_end0
    rw [Hn.out]
    exact ⟨rfl, HB4.out⟩
  | some x =>
    obtain ⟨rfl, hx, hf4⟩ := HQ4.out
    have HX := Lib.hid hx
    have HB4 : Hid (Fr o (o + 1) w w4) := (Fr.of_below HB.out.below).trans hf4
    clear hf4 hx HQ4
    go_wp2
    go_end0
    rw [Hn.out]
    exact ⟨rfl, HX.out, HB4.out⟩
set_option maxRecDepth 100000 in
set_option maxHeartbeats 3200000 in
theorem CliqueOrderOf_v (h : GV w A m c r) :
 Calls Tryz.prog 183 #[.agg #[.int .i64 m, .slice A m c]] w (lsQ w (clO r m)) := by
 obtain ⟨W, hW⟩ : ∃ W : World, W = ((w.alloc (Obj.cells #[Value.int IntKind.i64 m, Value.slice A m c] 29)).alloc (Obj.cells #[.slice none 0 0] 22)) := ⟨_, rfl⟩
 have HB : Hid (From w W) := by rw [hW]; exact (From.alloc _ _).alloc_ _
 have HG : Hid (GBox W w.heap.size A m c r) := by rw [hW]; exact h.box.keep ((Below.refl _ _).alloc (Nat.le_refl _) _)
 have HO : Hid (CL W (w.heap.size + 1) 0 (.slice none 0 0)) := by rw [hW]; constructor; simp [go_sem]
 have HF : Hid (W.frozen? ⟨w.heap.size + 1, 0, none⟩ = false) := by rw [hW]; simp [go_sem, Hid]
 have hzW : w.heap.size + 2 ≤ W.heap.size := by rw [hW]; simp
 have KC := Lib.hid (cliqueOrders_v HG.out.gv HO.out.c HF.out)
 have HW := Lib.hid hW
 obtain ⟨so, hso⟩ : ∃ so, so = clO r m := ⟨_, rfl⟩
 rw [← hso] at KC ⊢
 clear hW h hso
 go_enter Tryz.func183, Tryz.ntmps183
 have e0 := HG.out.c0
 have e1 := HG.out.c1
 go_wp2_with fail
 rw [← HW.out]
 clear HW
 refine KC.out.mono ?_
 rintro e w1 ⟨rfl, hq⟩
 cases so with
 | none =>
   clear e0 e1
   replace HB := Lib.hid (HB.out.keep hq)
   replace HO := Lib.hid (HO.out.keep hq)
   replace HG := Lib.hid (HG.out.keep hq)
   clear hq KC
   have e0 := HG.out.c0
   have e1 := HG.out.c1
   have d0 := HO.out.c
   have he : ∀ w : World, (binOp .neq 22 (.slice none 0 0) (.slice none 0 0)).run Tryz.prog w = .ok (.bool false) w := fun _ => rfl
   go_wp2
   go_quiet (fail)
   go_wp2
   go_ret2
   exact lsQ.no (below_drewN HB.out.below _)
 | some x =>
   obtain ⟨⟨g, c1, hc, ho⟩, hf⟩ := hq
   have d0 := hc
   have HOx : Hid (ON w.heap.size w1 (some ⟨g, 0, none⟩) c1 x) := ho.mono (by omega)
   have HBx : Hid (Below w.heap.size w w1) := HB.out.below.trans (hf.below (by omega) (by omega))
   have he : ∀ w : World, (binOp .neq 22 (.slice (some ⟨g, 0, none⟩) x.length c1) (.slice none 0 0)).run Tryz.prog w = .ok (.bool true) w := fun _ => rfl
   clear hc ho hf KC e0 e1
   go_wp2
   go_quiet (fail)
   go_wp2
   go_ret2
   exact lsQ.yes (HOx.out.keep (below_drewN (Below.refl _ _) _)) (below_drewN HBx.out _)
end
section
variable (sz : Int) (A : Option Addr) (m c : Nat) (x : Nat → Int) (w : World)
set_option maxRecDepth 100000 in
set_option maxHeartbeats 3200000 in
theorem cliqueOrders_no (h : GA w A m c x) (hm : m ≤ 1048576) (hok : okB sz m x = false) (o : Nat) :
 Calls Tryz.prog 224 #[.agg #[.int .i64 sz, .slice A m c], .func (.func 225) #[] #[.pointer (some ⟨o, 0, none⟩)]] w fun e w' => e = .returned (.tuple #[]) ∧ Below w.heap.size w w' := by
 obtain ⟨W, hW⟩ : ∃ W : World, W = ((w.alloc (Obj.cells #[Value.int IntKind.i64 sz, Value.slice A m c] 29)).alloc (Obj.cells #[.func (.func 225) #[] #[.pointer (some ⟨o, 0, none⟩)]] 173)) := ⟨_, rfl⟩
 have HB : Hid (From w W) := by rw [hW]; exact (From.alloc _ _).alloc_ _
 have HK := Lib.hid (h.keep HB.out.below)
 have HC : Hid (GC W w.heap.size sz A m c) := by rw [hW]; exact (GC.new _ _ _ _ _).keep ((Below.refl _ _).alloc (Nat.le_refl _) _)
 have HW := Lib.hid hW
 have KM := Lib.hid (MaximalCliques_no HK.out hm hok)
 have Hch := Lib.hid (chB_no hok)
 have hq0 : 0 < W.heap.size := by rw [hW]; simp
 clear hW h hok
 go_enter Tryz.func224, Tryz.ntmps224
 have e0 := HC.out.c0
 have e1 := HC.out.c1
 go_wp2_with fail
 rw [← HW.out]
 clear HW
 refine KM.out.mono ?_
 rintro e w1 ⟨A1, c1, rfl, hb1⟩
 clear e0 e1
 replace HB := Lib.hid (HB.out.keep hb1)
 replace HK := Lib.hid (HK.out.keep hb1)
 replace HC := Lib.hid (HC.out.keep hb1)
 clear hb1 KM
 have e0 := HC.out.c0
 have e1 := HC.out.c1
 obtain ⟨W2, hW2⟩ : ∃ W : World, W = ((w1.alloc (Obj.cells #[.slice A1 0 c1] 22)).alloc (Obj.cells #[.func (.func 265) #[] #[.pointer (some ⟨w1.heap.size, 0, none⟩), .pointer (some ⟨w.heap.size + 1, 0, none⟩), .pointer (some ⟨w1.heap.size + 1, 0, none⟩)]] 173)) := ⟨_, rfl⟩
 have hb2 : Below w1.heap.size w1 W2 := by rw [hW2]; exact ((Below.refl _ _).alloc (Nat.le_refl _) _).alloc (by simp) _
 have HW2 := Lib.hid hW2
 have hlt1 := HC.out.lt
 clear hW2
 go_wp2_with fail
 rw [← HW2.out]
 clear e0 e1
 replace HB := Lib.hid (HB.out.keep hb2)
 replace HK := Lib.hid (HK.out.keep hb2)
 replace HC := Lib.hid (HC.out.keep hb2)
 clear hb2 HW2 hlt1
 have e0 := HC.out.c0
 have e1 := HC.out.c1
 refine (IsChordal_ix sz A m c x _ _ HK.out.rd (Nat.le_refl _) hm).mono ?_
 rintro e w3 ⟨rfl, hb3⟩
 rw [Hch.out]
 clear e0 e1
 replace HB := Lib.hid (HB.out.keep hb3)
 replace HK := Lib.hid (HK.out.keep hb3)
 replace HC := Lib.hid (HC.out.keep hb3)
 clear hb3
 have e0 := HC.out.c0
 have e1 := HC.out.c1
 go_wp2
 go_end0
 exact ⟨rfl, HB.out.below⟩
set_option maxRecDepth 100000 in
set_option maxHeartbeats 3200000 in
theorem CliqueOrderOf_no (h : GA w A m c x) (hm : m ≤ 1048576) (hok : okB sz m x = false) :
 Calls Tryz.prog 183 #[.agg #[.int .i64 sz, .slice A m c]] w (lsQ w none) := by
 obtain ⟨W, hW⟩ : ∃ W : World, W = ((w.alloc (Obj.cells #[Value.int IntKind.i64 sz, Value.slice A m c] 29)).alloc (Obj.cells #[.slice none 0 0] 22)) := ⟨_, rfl⟩
 have HB : Hid (From w W) := by rw [hW]; exact (From.alloc _ _).alloc_ _
 have HK := Lib.hid (h.keep HB.out.below)
 have HC : Hid (GC W w.heap.size sz A m c) := by rw [hW]; exact (GC.new _ _ _ _ _).keep ((Below.refl _ _).alloc (Nat.le_refl _) _)
 have HO : Hid (CL W (w.heap.size + 1) 0 (.slice none 0 0)) := by rw [hW]; constructor; simp [go_sem]
 have KC := Lib.hid (cliqueOrders_no sz A m c x W HK.out hm hok (w.heap.size + 1))
 have HW := Lib.hid hW
 clear hW h hok
 go_enter Tryz.func183, Tryz.ntmps183
 have e0 := HC.out.c0
 have e1 := HC.out.c1
 go_wp2_with fail
 rw [← HW.out]
 clear HW
 refine KC.out.mono ?_
 rintro e w1 ⟨rfl, hb1⟩
 clear e0 e1
 replace HB := Lib.hid (HB.out.keep hb1)
 replace HO := Lib.hid (HO.out.keep hb1)
 replace HC := Lib.hid (HC.out.keep hb1)
 clear hb1 KC
 have e0 := HC.out.c0
 have e1 := HC.out.c1
 have d0 := HO.out.c
 have he : ∀ w : World, (binOp .neq 22 (.slice none 0 0) (.slice none 0 0)).run Tryz.prog w = .ok (.bool false) w := fun _ => rfl
 go_wp2
 go_quiet (fail)
 go_wp2
 go_ret2
 exact lsQ.no (below_drewN HB.out.below _)
set_option maxRecDepth 100000 in
set_option maxHeartbeats 1600000 in
theorem IsInterval_i (h : GA w A m c x) (hm : m ≤ 1048576) :
 Calls Tryz.prog 129 #[.agg #[.int .i64 sz, .slice A m c]] w fun e w' => e = .returned (.bool (ivG sz m x)) ∧ Below w.heap.size w w' := by
 obtain ⟨W, hW⟩ : ∃ W : World, W = (w.alloc (Obj.cells #[Value.int IntKind.i64 sz, Value.slice A m c] 29)) := ⟨_, rfl⟩
 have HB : Hid (From w W) := by rw [hW]; exact From.alloc _ _
 have HK := Lib.hid (h.keep HB.out.below)
 have HC : Hid (GC W w.heap.size sz A m c) := by rw [hW]; exact GC.new _ _ _ _ _
 have HW := Lib.hid hW
 clear hW h
 go_enter Tryz.func129, Tryz.ntmps129
 cases ho : okB sz m x
 ·have Hn : Hid (ivG sz m x = false) := ivG_no ho
  have KF := Lib.hid (CliqueOrderOf_no sz A m c x W HK.out hm ho)
  clear ho
  have e0 := HC.out.c0
  have e1 := HC.out.c1
  go_wp2_with fail
  rw [← HW.out]
  refine (KF.out).mono ?_
  rintro e w1 ⟨A', c', rfl, _, hb1⟩
  clear HW
  clear e0 e1
  replace HB := Lib.hid (HB.out.keep hb1)
  replace HK := Lib.hid (HK.out.keep hb1)
  replace HC := Lib.hid (HC.out.keep hb1)
  clear hb1
  have e0 := HC.out.c0
  have e1 := HC.out.c1
  clear KF
  go_wp2
  go_ret
  exact ⟨ret_bool Hn.out.symm, HB.out.below⟩
 obtain ⟨_, es, _, _⟩ := okB_ok' ho
 subst es
 have Hn : Hid (ivG (m : Int) m x = (clO (rw_ x) m).isSome) := ivG_yes ho
 have HG : Hid (GBox W w.heap.size A m c (rw_ x)) := ⟨HK.out.gv ho, HC.out.c0, HC.out.c1, HC.out.lt⟩
 have KF := Lib.hid (CliqueOrderOf_v HG.out.gv)
 obtain ⟨o, ho2⟩ : ∃ o, o = clO (rw_ x) m := ⟨_, rfl⟩
 rw [← ho2] at Hn KF
 clear ho ho2 HC HK
 cases o
 ·skip
  have e0 := HG.out.c0
  have e1 := HG.out.c1
  go_wp2_with fail
  rw [← HW.out]
  refine (KF.out).mono ?_
  rintro e w2 ⟨A', c', rfl, _, hb2⟩
  clear HW
  clear e0 e1
  replace HB := Lib.hid (HB.out.keep hb2)
  replace HG := Lib.hid (HG.out.keep hb2)
  clear hb2
  have e0 := HG.out.c0
  have e1 := HG.out.c1
  clear KF
  go_wp2
  go_ret
  exact ⟨ret_bool Hn.out.symm, HB.out.below⟩
 ·skip
  have e0 := HG.out.c0
  have e1 := HG.out.c1
  go_wp2_with fail
  rw [← HW.out]
  refine (KF.out).mono ?_
  rintro e w3 ⟨A', c', rfl, _, hb3⟩
  clear HW
  clear e0 e1
  replace HB := Lib.hid (HB.out.keep hb3)
  replace HG := Lib.hid (HG.out.keep hb3)
  clear hb3
  have e0 := HG.out.c0
  have e1 := HG.out.c1
  clear KF
  go_wp2
  go_ret
  exact ⟨ret_bool Hn.out.symm, HB.out.below⟩
end
end Go.Proofs.YtppkokgiojcgbaaGreatDoor
