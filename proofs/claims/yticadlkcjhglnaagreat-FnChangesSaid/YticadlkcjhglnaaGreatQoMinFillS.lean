/-
-/
import Derived.Test.YticadlkcjhglnaaGreatQoDrwA
import Derived.Test.YticadlkcjhglnaaGreatQoMinFillI
import Derived.Test.YticadlkcjhglnaaGreatQoGC
namespace Go.Proofs.YticadlkcjhglnaaGreat
open Go.RowKit
set_option maxHeartbeats 3200000
theorem GC.grown {w w' : World} {q m c : Nat} {sz : Int} {A : Option Addr} {b : Option Nat} (h : GC w q sz A m c) (hg : w.grownBy w' b) (hne : b ≠ some q) : GC w' q sz A m c := by
 have e : w'.heap[q]? = w.heap[q]? := hg.block q h.lt (fun e => hne e.symm);exact ⟨(World.cell?_of_block (a := ⟨q, 0, none⟩) e).trans h.c0, (World.cell?_of_block (a := ⟨q, 1, none⟩) e).trans h.c1, (World.frozen?_of_block (a := ⟨q, 0, none⟩) e).trans h.f0, (World.frozen?_of_block (a := ⟨q, 1, none⟩) e).trans h.f1⟩
theorem step_appendW (w : World) {ops : Array Oper} {o : Oper} {a : Act} {K : Act → World → Prop} {Q : Exit → Act → World → Prop} {E : Prop}
 {lo hi B n c m c2 : Nat} {A A2 : Option Addr} {x y : Nat → Value} (hgd : o.guard = none) (s z : Operand)
 (ho : o.op = .call { callee := .builtin .append, args := #[s, z], argTypes := #[32, 32] })
 (hs : a.eval s = .slice A n c) (h : Own w lo hi 24 1 A n c x) (hz : a.eval z = .slice A2 m c2) (hr : RdV w B A2 m c2 y) (hy : ∀ k, (y k).oneCell' = true) (hlo : lo ≤ w.heap.size) (hn : n ≤ 1073741824) (hm : m ≤ 1073741824) (N : Nat) (hNN : n + m = N)
 (hK : ∀ A' c' w', Own w' lo w'.heap.size 24 1 A' N c' (thenV n x y) → Below lo w w' → w.grownBy w' (Value.slice A n c).ownBlock → ((Value.slice A' N c').ownBlock = (Value.slice A n c).ownBlock ∨ (Value.slice A' N c').ownBlock = some w.heap.size) → K (a.put o.dst (.slice A' N c')) w') :
 if Region.wanted o (yielded ops a.tmps) = true then Oper.wp Tryz.prog o a w K Q else E := by
 subst hNN;have hw : Region.wanted o (yielded ops a.tmps) = true := by simp [Region.wanted, hgd]
 rw [if_pos hw];obtain ⟨A', c', w', hrun, h2, h3, h4, h5⟩ := run_appendV w o.type h hr hy hlo hn hm;unfold Oper.wp execOp;simp only [ho, resolve, invoke, builtin, Sem.run_bind, Sem.run_pure, Result.andThen_ok, List.map_toArray, List.map_cons, List.map_nil, hs, hz, hrun];exact hK _ _ _ h2 h3 h5 h4
theorem own_empty (w : World) (lo hi : Nat) (h1 : lo ≤ w.heap.size) (h2 : w.heap.size < hi) (x : Nat → Value) : Own (w.alloc (Obj.cells #[] 24)) lo hi 24 1 (some ⟨w.heap.size, 0, none⟩) 0 0 x :=
 .inr ⟨w.heap.size, #[], rfl, h1, h2, heap_alloc_new w _, nr_, by unfold maxLen; omega, rfl, fun j hj => absurd hj (by omega)⟩
theorem ob_some {q o n c : Nat} : (Value.slice (some ⟨q, o, none⟩) n c).ownBlock = some q := rfl
set_option maxRecDepth 100000 in
theorem IsMinimalFill_s (s1 : Int) (A1 : Option Addr) (m1 c1 : Nat) (x1 : Nat → Int) (A2 : Option Addr) (c2 : Nat) (D : List Dsc) (w : World) (B : Nat) (h1 : Rd w B A1 m1 c1 x1) (h2 : RdD w B A2 c2 D) (hB : B ≤ w.heap.size) (hm1 : m1 ≤ 1048576) (hd : D.length ≤ 1048576) (ht : tot D ≤ 1048576) (L : List (List Int)) (hL : lists D = L) :
 Calls Tryz.prog 43 #[.agg #[.int .i64 s1, .slice A1 m1 c1], .slice A2 D.length c2] w fun e w' => e = .returned (.bool (imfB s1 m1 x1 L)) ∧ Below w.heap.size w w' := by
 subst hL;obtain ⟨W, hW⟩ : ∃ W, W = (w.alloc (Obj.cells #[.int .i64 s1, .slice A1 m1 c1] 26)) := ⟨_, rfl⟩;have HB : Hid (From w W) := by rw [hW]; exact From.alloc _ _
 have HK : Hid (Rd W W.heap.size A1 m1 c1 x1) := h1.keep (HB.below.mono hB) (by have := HB.below.size; omega);have HD : Hid (LD W A2 c2 D) := ⟨h2.keep (HB.below.mono hB) (by have := HB.below.size; omega)⟩;have HC : Hid (GC W w.heap.size s1 A1 m1 c1) := by rw [hW]; exact GC.new _ _ _ _ _
 have HW := hh_ hW;clear hW h1 h2;go_enter Tryz.func43, Tryz.ntmps43;go_wp2_with fail
 rw [← HW.out];clear HW;refine (AddAll_s s1 A1 m1 c1 x1 A2 c2 D W W.heap.size HK HD.rd nr_ hm1 hd ht _ rfl).mono ?_;rintro e w1 ⟨A', c', rfl, hO, hb1⟩;have HK1 : Hid (Rd w1 w1.heap.size A1 m1 c1 x1) := HK.keep hb1 hb1.size;replace HB := hh_ (HB.keep hb1);replace HD := hh_ (HD.keep hb1);replace HC := hh_ (HC.keep hb1);have HO := hh_ hO;have hN : aaN s1 m1 x1 (lists D) ≤ m1 := aaN_le;clear hO hb1 HK;obtain ⟨W2, hW2⟩ : ∃ W2, W2 = w1.alloc (Obj.cells #[.int .i64 (aaZ s1 m1 x1 (lists D)), .slice A' (aaN s1 m1 x1 (lists D)) c'] 26) := ⟨_, rfl⟩;have HB2 : Hid (From w W2) := by rw [hW2]; exact HB.alloc_ _
 have HR2 : Hid (Rd W2 W2.heap.size A' (aaN s1 m1 x1 (lists D)) c' (aaX s1 m1 x1 (lists D))) := by
  rw [hW2];exact HO.rd.keep (br_.alloc nr_ _) (by simp)
 have hb2 : Below w1.heap.size w1 W2 := by rw [hW2]; exact br_.alloc nr_ _
 have HK2 : Hid (Rd W2 W2.heap.size A1 m1 c1 x1) := HK1.keep hb2 hb2.size;replace HD := hh_ (HD.keep hb2);replace HC := hh_ (HC.keep hb2);have HW2 := hh_ hW2;clear hW2 hb2 HK1 HO;cases hb : aaB s1 m1 x1 (lists D)
 ·have hno : Hid (imfB s1 m1 x1 (lists D) = false) := imB_bad (fiB_no hb);clear hb;go_wp2;rw [← HW2.out];go_ret;exact ⟨ret_bool hno.symm, HB2.below⟩
 clear hb;go_wp2_with fail
 rw [← HW2.out];clear HW2;refine (IsChordal_sx _ A' _ c' _ W2 W2.heap.size HR2.out nr_ (by omega)).mono ?_;rintro e w3 ⟨rfl, hb3⟩;replace HB := hh_ (HB2.keep hb3);have HK3 : Hid (Rd w3 w3.heap.size A1 m1 c1 x1) := HK2.keep hb3 hb3.size;replace HD := hh_ (HD.keep hb3);replace HC := hh_ (HC.keep hb3);clear hb3 HB2 HR2 HK2;have he : chB (aaZ s1 m1 x1 (lists D)) (aaN s1 m1 x1 (lists D)) (aaX s1 m1 x1 (lists D)) = fiB s1 m1 x1 (lists D) := rfl;rw [he];clear he;cases hf : fiB s1 m1 x1 (lists D)
 ·have hno : Hid (imfB s1 m1 x1 (lists D) = false) := imB_bad hf;clear hf;go_wp2;go_ret;exact ⟨ret_bool hno.symm, HB.below⟩
 have Hf := hh_ hf;have hll : (lists D).length = D.length := by simp [lists]
 have Hll := hh_ hll;clear hf hll;go_wp2;go_loopw [7] (fun i wr => ∃ k : Nat, k ≤ D.length ∧ i = .int .i64 k ∧ Hid (∀ j, j < k → fiB s1 m1 x1 ((lists D).eraseIdx j) = false) ∧ Hid (From w3 wr)) (fun i _ => D.length - (intOf i).toNat);case atStart => exact ⟨0, Nat.zero_le _, rfl, (fun j hj => absurd hj (by omega)), From.refl _⟩
 case round =>
  obtain ⟨k, hk, rfl, hall, HR⟩ := hrel;have HBr := hh_ (HB.keep HR.below);by_cases hlt : k < D.length
  ·have HCr := hh_ (HC.keep HR.below);have HDr := hh_ (HD.keep HR.below);have HKr : Hid (Rd wr wr.heap.size A1 m1 c1 x1) := HK3.keep HR.below HR.below.size;obtain ⟨b, o, rfl, hbb, _⟩ := HDr.rd.1.2 (by omega);have hcc := HDr.rd.1.1;have i0 : (0 : Int) ≤ k := by omega
   have i1 : (k : Int) < D.length := by omega
   have i2 : (k : Int) ≤ c2 := by omega
   have i3 : IntKind.i64.wrap ((k : Int) + 1) = (k : Int) + 1 := Go.IntWalk.i64_in _ (by omega);have i4 : (0 : Int) ≤ k + 1 := by omega
   have i5 : (k : Int) + 1 ≤ (D.length : Int) := by omega
   have i6 : ((k : Int) + 1).toNat = k + 1 := by omega
   have H1 := hh_ (HDr.pre (i := k) (by omega));have q0 := HCr.c0;have q1 := HCr.c1;have hte := tot_erase D k;have hle : (D.eraseIdx k).length ≤ D.length := List.length_eraseIdx_le ..;have hl : (D.eraseIdx k).length = 0 + k + (D.length - (k + 1)) := by rw [List.length_eraseIdx_of_lt hlt]; omega
   have He : Hid (lists (D.eraseIdx k) = (lists D).eraseIdx k) := lists_erase D k;obtain ⟨T, hT⟩ : ∃ T, T = lists (D.eraseIdx k) := ⟨_, rfl⟩;have HT : Hid ((lists D).eraseIdx k = T) := by show _ = _; rw [hT]; exact He.symm
   have KC : Hid (∀ (z : World) (A6 : Option Addr) (c6 : Nat), Below wr.heap.size wr z → Own z wr.heap.size z.heap.size 24 1 A6 (k + (D.length - (k + 1))) c6 (thenV k (thenV 0 (fun _ => .slice none 0 0) (dvs D)) (fun j => dvs D (k + 1 + j))) → Calls Tryz.prog 41 #[.agg #[.int .i64 s1, .slice A1 m1 c1], .slice A6 (k + (D.length - (k + 1))) c6] z fun e w' => ∃ A' c', e = .returned (.tuple #[.agg #[.int .i64 (aaZ s1 m1 x1 T), .slice A' (aaN s1 m1 x1 T) c'], .bool (aaB s1 m1 x1 T)]) ∧ Own w' z.heap.size w'.heap.size 3 1 A' (aaN s1 m1 x1 T) c' (fun j => .int .i64 (aaX s1 m1 x1 T j)) ∧ Below z.heap.size z w') := by
    intro z A6 c6 hz hO;have hO2 : Own z wr.heap.size z.heap.size 24 1 A6 (k + (D.length - (k + 1))) c6 (thenV k (dvs D) (fun j => dvs D (k + 1 + j))) := by
     exact hO.congr (fun j hj => by unfold thenV; by_cases h : j < k <;> simp [h])
    have hE := LD.erase (HDr.keep hz) hlt hO2;have := AddAll_s s1 A1 m1 c1 x1 A6 c6 (D.eraseIdx k) z z.heap.size (HKr.keep hz hz.size) hE.rd nr_ hm1 (by omega) (by omega) T hT.symm;rw [hl, Nat.zero_add] at this;exact this
   have HSC : Hid (∀ z : World, Below wr.heap.size wr z → (Below wr.heap.size wr z ∧ z.cell? ⟨w.heap.size, 0, none⟩ = some (.int .i64 s1) ∧ z.cell? ⟨w.heap.size, 1, none⟩ = some (.slice A1 m1 c1))) := fun z hz => ⟨hz, up_ hz q0, up_ hz q1⟩
   have HZ1 : Hid (Below wr.heap.size wr wr.drew) := br_.drew;have HS1 := hh_ (HSC.out _ HZ1.out);have HT2 := hh_ hT;clear q0 q1 hte hle hl hT hbb;have OneD : ∀ j, (dvs D j).oneCell' = true := dvs_one D;have HOne := hh_ OneD;have HOne2 : Hid (∀ j, ((fun j => dvs D (k + 1 + j)) j).oneCell' = true) := fun j => dvs_one D _
   clear OneD;by_cases hic : k + 1 < c2
   ·have H2 : Hid (LV wr (some ⟨b, o + (k + 1), none⟩) (D.length - (k + 1)) (c2 - (k + 1)) (fun j => dvs D (k + 1 + j))) := HDr.post hlt hic;have hci : (c2 = k + 1) = False := by simp; omega
    have OA : Hid (Own ((wr.alloc (Obj.cells #[] 24)).drew) wr.heap.size (wr.heap.size + 1) 24 1 (some ⟨wr.heap.size, 0, none⟩) 0 0 (fun _ => .slice none 0 0)) := (own_empty wr _ _ nr_ (Nat.lt_succ_self _) _).drew;have OB : Hid (Own (((wr.alloc (Obj.cells #[] 24)).alloc (Obj.cells #[.int .i64 0, .slice none 0 0] 26)).drew) wr.heap.size (wr.heap.size + 1) 24 1 (some ⟨wr.heap.size, 0, none⟩) 0 0 (fun _ => .slice none 0 0)) := ((own_empty wr _ _ nr_ (Nat.lt_succ_self _) _).alloc _).drew;have OC : Hid (Own (((wr.alloc (Obj.cells #[.int .i64 0, .slice none 0 0] 26)).alloc (Obj.cells #[] 24)).drew) wr.heap.size (wr.heap.size + 2) 24 1 (some ⟨wr.heap.size + 1, 0, none⟩) 0 0 (fun _ => .slice none 0 0)) := by have h := own_empty (wr.alloc (Obj.cells #[.int .i64 0, .slice none 0 0] 26)) wr.heap.size (wr.heap.size + 2) (by simp) (by simp) (fun _ => .slice none 0 0); have e : (wr.alloc (Obj.cells #[.int .i64 0, .slice none 0 0] 26)).heap.size = wr.heap.size + 1 := (by simp); rw [e] at h; exact h.drew
    have NB : Hid (GC (((wr.alloc (Obj.cells #[] 24)).alloc (Obj.cells #[.int .i64 0, .slice none 0 0] 26)).drew) (wr.heap.size + 1) 0 none 0 0) := by have h := GC.new (wr.alloc (Obj.cells #[] 24)) 0 none 0 0; have e : (wr.alloc (Obj.cells #[] 24)).heap.size = wr.heap.size + 1 := (by simp); rw [e] at h; exact h.drew
    have NC : Hid (GC (((wr.alloc (Obj.cells #[.int .i64 0, .slice none 0 0] 26)).alloc (Obj.cells #[] 24)).drew) wr.heap.size 0 none 0 0) := ((GC.new wr 0 none 0 0).keep (br_.alloc nr_ _)).drew;have SBC : Hid ((((wr.alloc (Obj.cells #[] 24)).alloc (Obj.cells #[.int .i64 0, .slice none 0 0] 26)).drew).heap.size = wr.heap.size + 2 ∧ (((wr.alloc (Obj.cells #[.int .i64 0, .slice none 0 0] 26)).alloc (Obj.cells #[] 24)).drew).heap.size = wr.heap.size + 2) := ⟨by show ((wr.alloc _).alloc _).heap.size = _; simp, by show ((wr.alloc _).alloc _).heap.size = _; simp⟩;have ZA : Hid (Below wr.heap.size wr ((wr.alloc (Obj.cells #[] 24)).drew)) := bl_drew (bl_alloc br_);have ZB : Hid (Below wr.heap.size wr (((wr.alloc (Obj.cells #[] 24)).alloc (Obj.cells #[.int .i64 0, .slice none 0 0] 26)).drew)) := bl_drew (bl_alloc (bl_alloc br_));have ZC : Hid (Below wr.heap.size wr (((wr.alloc (Obj.cells #[.int .i64 0, .slice none 0 0] 26)).alloc (Obj.cells #[] 24)).drew)) := bl_drew (bl_alloc (bl_alloc br_))
    have ZD : Hid (Below wr.heap.size wr ((wr.alloc (Obj.cells #[.int .i64 0, .slice none 0 0] 26)).drew)) := bl_drew (bl_alloc br_);clear hic;go_wp2;go_region_held3 (fun z => Below wr.heap.size wr z ∧ z.cell? ⟨w.heap.size, 0, none⟩ = some (.int .i64 s1) ∧ z.cell? ⟨w.heap.size, 1, none⟩ = some (.slice A1 m1 c1))
     (first | exact HS1.out | assumption | exact HSC.out _ hz7 | exact HSC.out _ (bl_alloc hz7) | exact HSC.out _ (bl_set hz7 nr_) | exact HSC.out _ (bl_set (bl_set hz7 nr_) nr_) | exact HSC.out _ (bl_set hz7 (Nat.le_succ _)) | exact HSC.out _ (bl_set (bl_set hz7 (Nat.le_succ _)) (Nat.le_succ _)) | exact HSC.out _ (bl_set hz7 hz5.size) | exact HSC.out _ (bl_set (bl_set hz7 hz5.size) hz5.size) | exact HSC.out _ (bl_set hz7 hz6.size) | exact HSC.out _ (bl_set (bl_set hz7 hz6.size) hz6.size) | exact HSC.out _ hz6 | exact HSC.out _ (bl_alloc hz6) | exact HSC.out _ hz5 | exact HSC.out _ (bl_alloc hz5) | exact HSC.out _ ZA.out | exact HSC.out _ ZB.out | exact HSC.out _ ZC.out | exact HSC.out _ ZD.out | fail)
     (first
     | ((refine step_appendW _ (by rfl) _ _ (by rfl) (by rfl) OA.out (by rfl) (H1.keep ZA.out).rd HOne.out ZA.size (by omega) (by omega) k (Nat.zero_add k) ?_; intro A5 c5 w5 hO5 hb5 hg5 ha5; have hz5 := ZA.trans hb5; clear ha5))
     | ((refine step_appendW _ (by rfl) _ _ (by rfl) (by rfl) OB.out (by rfl) (H1.keep ZB.out).rd HOne.out ZB.size (by omega) (by omega) k (Nat.zero_add k) ?_; intro A5 c5 w5 hO5 hb5 hg5 ha5; have hz5 := ZB.trans hb5; have hn5 := NB.grown hg5 (by rw [ob_some]; simp); have hq5 : (Value.slice A5 k c5).ownBlock ≠ some (wr.heap.size + 1) := (by rcases ha5 with h | h <;> rw [h] <;> first | (rw [SBC.out.1]; simp) | simp [ob_some]); clear ha5))
     | ((refine step_appendW _ (by rfl) _ _ (by rfl) (by rfl) OC.out (by rfl) (H1.keep ZC.out).rd HOne.out ZC.size (by omega) (by omega) k (Nat.zero_add k) ?_; intro A5 c5 w5 hO5 hb5 hg5 ha5; have hz5 := ZC.trans hb5; have hn5 := NC.grown hg5 (by rw [ob_some]; simp); have hq5 : (Value.slice A5 k c5).ownBlock ≠ some wr.heap.size := (by rcases ha5 with h | h <;> rw [h] <;> first | (rw [SBC.out.2]; simp) | simp [ob_some]); clear ha5))
     | ((refine step_appendW _ (by rfl) _ _ (by rfl) (by rfl) hO5 (by rfl) (H2.keep hz5).rd HOne2.out hz5.size (by omega) (by omega) (k + (D.length - (k + 1))) rfl ?_; intro A6 c6 w6 hO6 hb6 hg6 ha6; have hz6 := hz5.trans hb6; have hn6 := hn5.grown hg6 hq5; clear ha6))
     | ((refine step_appendW _ (by rfl) _ _ (by rfl) (by rfl) hO5 (by rfl) (H2.keep hz5).rd HOne2.out hz5.size (by omega) (by omega) (k + (D.length - (k + 1))) rfl ?_; intro A6 c6 w6 hO6 hb6 hg6 ha6; have hz6 := hz5.trans hb6; have hnone := hg6; clear ha6))
     | ((refine step_appendW _ (by rfl) _ _ (by rfl) (by rfl) (hO5.alloc _) (by rfl) (H2.keep (bl_alloc hz5)).rd HOne2.out (bl_alloc hz5).size (by omega) (by omega) (k + (D.length - (k + 1))) rfl ?_; intro A6 c6 w6 hO6 hb6 hg6 ha6; have hz6 := (bl_alloc hz5).trans hb6; have hn6 := (GC.new w5 0 none 0 0).grown hg6 (by intro e; have := (hO5.block _ e).2; omega); clear ha6))
     | (go_at_call 41; ((with_reducible refine (KC.out _ _ _ hz6 hO6).mono ?_); rintro e w7 ⟨A7, c7, rfl, hO7, hb7⟩; have hz7 := bl_trans hz6 hb7; have hn7 := hn6.keep hb7; have n0 := hn7.c0; have n1 := hn7.c1; have n2 := hn7.f0; have n3 := hn7.f1))
     | (go_at_call 41; ((with_reducible refine (KC.out _ _ _ hz6 hO6).mono ?_); rintro e w7 ⟨A7, c7, rfl, hO7, hb7⟩; have hz7 := bl_trans hz6 hb7))
     | (go_at_call 41; ((with_reducible refine (KC.out _ _ _ (bl_alloc hz6) (hO6.alloc _ |>.mono nr_ (by simp))).mono ?_); rintro e w7 ⟨A7, c7, rfl, hO7, hb7⟩; have hz7 := bl_trans (bl_alloc hz6) hb7; have hn7 := (GC.new w6 0 none 0 0).keep hb7; have n0 := hn7.c0; have n1 := hn7.c1; have n2 := hn7.f0; have n3 := hn7.f1))
     | fail)
    all_goals
     first
      | (obtain ⟨W8, hW8⟩ : ∃ W8, W8 = ((w7.setCell ⟨wr.heap.size, 0, none⟩ (.int .i64 (aaZ s1 m1 x1 T))).setCell ⟨wr.heap.size, 1, none⟩ (.slice A7 (aaN s1 m1 x1 T) c7)) := ⟨_, rfl⟩
         rw [← hW8];have HQ8 : Hid (GC W8 wr.heap.size (aaZ s1 m1 x1 T) A7 (aaN s1 m1 x1 T) c7) := by rw [hW8]; exact hn7.set
         have HZ8 : Hid (Below wr.heap.size wr W8) := by rw [hW8]; exact bl_set (bl_set hz7 (by have := hz5.size; have := hz6.size; omega)) (by have := hz5.size; have := hz6.size; omega)
         have HO8 : Hid (Rd W8 W8.heap.size A7 (aaN s1 m1 x1 T) c7 (aaX s1 m1 x1 T)) := by
          rw [hW8];exact ((hO7.keep (fr2 _ (wr.heap.size) _ _) (.inr (by have := hn6.lt; omega))).mono nr_ (by simp [World.setCell])).rd
         clear hW8 hn7 n0 n1 n2 n3)
      | (obtain ⟨W8, hW8⟩ : ∃ W8, W8 = ((w7.setCell ⟨wr.heap.size + 1, 0, none⟩ (.int .i64 (aaZ s1 m1 x1 T))).setCell ⟨wr.heap.size + 1, 1, none⟩ (.slice A7 (aaN s1 m1 x1 T) c7)) := ⟨_, rfl⟩
         rw [← hW8];have HQ8 : Hid (GC W8 (wr.heap.size + 1) (aaZ s1 m1 x1 T) A7 (aaN s1 m1 x1 T) c7) := by rw [hW8]; exact hn7.set
         have HZ8 : Hid (Below wr.heap.size wr W8) := by rw [hW8]; exact bl_set (bl_set hz7 (by have := hz5.size; have := hz6.size; omega)) (by have := hz5.size; have := hz6.size; omega)
         have HO8 : Hid (Rd W8 W8.heap.size A7 (aaN s1 m1 x1 T) c7 (aaX s1 m1 x1 T)) := by
          rw [hW8];exact ((hO7.keep (fr2 _ (wr.heap.size + 1) _ _) (.inr (by have := hn6.lt; omega))).mono nr_ (by simp [World.setCell])).rd
         clear hW8 hn7 n0 n1 n2 n3)
      | (obtain ⟨W8, hW8⟩ : ∃ W8, W8 = ((w7.setCell ⟨w5.heap.size, 0, none⟩ (.int .i64 (aaZ s1 m1 x1 T))).setCell ⟨w5.heap.size, 1, none⟩ (.slice A7 (aaN s1 m1 x1 T) c7)) := ⟨_, rfl⟩
         rw [← hW8];have HQ8 : Hid (GC W8 w5.heap.size (aaZ s1 m1 x1 T) A7 (aaN s1 m1 x1 T) c7) := by rw [hW8]; exact hn7.set
         have HZ8 : Hid (Below wr.heap.size wr W8) := by rw [hW8]; exact bl_set (bl_set hz7 (by have := hz5.size; have := hz6.size; omega)) (by have := hz5.size; have := hz6.size; omega)
         have HO8 : Hid (Rd W8 W8.heap.size A7 (aaN s1 m1 x1 T) c7 (aaX s1 m1 x1 T)) := by
          rw [hW8];exact ((hO7.keep (fr2 _ (w5.heap.size) _ _) (.inr (by have := hn6.lt; omega))).mono nr_ (by simp [World.setCell])).rd
         clear hW8 hn7 n0 n1 n2 n3)
      | (obtain ⟨W8, hW8⟩ : ∃ W8, W8 = ((w7.setCell ⟨w6.heap.size, 0, none⟩ (.int .i64 (aaZ s1 m1 x1 T))).setCell ⟨w6.heap.size, 1, none⟩ (.slice A7 (aaN s1 m1 x1 T) c7)) := ⟨_, rfl⟩
         rw [← hW8];have HQ8 : Hid (GC W8 w6.heap.size (aaZ s1 m1 x1 T) A7 (aaN s1 m1 x1 T) c7) := by rw [hW8]; exact hn7.set
         have HZ8 : Hid (Below wr.heap.size wr W8) := by rw [hW8]; exact bl_set (bl_set hz7 (by have := hz5.size; have := hz6.size; omega)) (by have := hz5.size; have := hz6.size; omega)
         have HO8 : Hid (Rd W8 W8.heap.size A7 (aaN s1 m1 x1 T) c7 (aaX s1 m1 x1 T)) := by
          rw [hW8];exact ((hO7.keep (fr2 _ (w6.heap.size) _ _) (.inr (by simp))).mono nr_ (by simp [World.setCell])).rd
         clear hW8 hn7 n0 n1 n2 n3)
      | (obtain ⟨W8, hW8⟩ : ∃ W8, W8 = (w7.alloc (Obj.cells #[.int .i64 (aaZ s1 m1 x1 T), .slice A7 (aaN s1 m1 x1 T) c7] 26)) := ⟨_, rfl⟩
         rw [← hW8];have HQ8 : Hid (GC W8 w7.heap.size (aaZ s1 m1 x1 T) A7 (aaN s1 m1 x1 T) c7) := by rw [hW8]; exact GC.new _ _ _ _ _
         have HZ8 : Hid (Below wr.heap.size wr W8) := by rw [hW8]; exact bl_alloc hz7
         have HO8 : Hid (Rd W8 W8.heap.size A7 (aaN s1 m1 x1 T) c7 (aaX s1 m1 x1 T)) := by rw [hW8]; exact ((hO7.alloc _).mono nr_ (by simp)).rd
         clear hW8)
      | fail
     have y0 := HQ8.c0;have y1 := HQ8.c1;have HB8 := hh_ (HBr.keep HZ8.out);have HR8 := hh_ (HR.keep HZ8.out);have hN8 : aaN s1 m1 x1 T ≤ m1 := aaN_le;clear hb5 hg5 hO5 hz5 hb6 hg6 hO6 hz6 hb7 hO7 hz7 OA OB OC NB NC ZA ZB ZC ZD HSC HZ1 HS1 KC H1 H2 HOne HOne2 HQ8;go_wp2_with fail
     refine (IsChordal_sx _ A7 _ c7 _ W8 W8.heap.size HO8.out nr_ (by omega)).mono ?_;rintro e w9 ⟨rfl, hb9⟩;have HB9 := hh_ (HB8.keep hb9);have HR9 := hh_ (HR8.keep hb9);have he : chB (aaZ s1 m1 x1 T) (aaN s1 m1 x1 T) (aaX s1 m1 x1 T) = fiB s1 m1 x1 T := rfl;rw [he, ← HT.out];obtain ⟨t, ht2⟩ : ∃ t, t = fiB s1 m1 x1 ((lists D).eraseIdx k) := ⟨_, rfl⟩;rw [← ht2];have Ht := hh_ ht2;clear ht2 he hb9 y0 y1 HO8 hN8;cases t
     ·go_wp2;go_roundw;case rel =>
       refine ⟨k + 1, by omega, by go_num, fun j hj => ?_, HR9⟩;by_cases hjk : j < k
       ·exact hall.out j hjk
       ·obtain rfl : j = k := by omega
        exact Ht.symm
      case measure => simp [intOf]; omega
     ·have hno : Hid (imfB s1 m1 x1 (lists D) = false) := imB_no (by rw [Hll.out]; exact hlt) Ht.symm;go_wp2;go_ret;exact ⟨ret_bool hno.symm, HB9.below⟩
   ·have hci : (c2 = k + 1) = True := by simp; omega
    have hz0 : D.length - (k + 1) = 0 := by omega
    have H2 : Hid (LV wr (some ⟨b, o, none⟩) (D.length - (k + 1)) (c2 - (k + 1)) (fun j => dvs D (k + 1 + j))) := ⟨⟨by omega, fun h => by omega⟩⟩;clear hz0;have OA : Hid (Own ((wr.alloc (Obj.cells #[] 24)).drew) wr.heap.size (wr.heap.size + 1) 24 1 (some ⟨wr.heap.size, 0, none⟩) 0 0 (fun _ => .slice none 0 0)) := (own_empty wr _ _ nr_ (Nat.lt_succ_self _) _).drew;have OB : Hid (Own (((wr.alloc (Obj.cells #[] 24)).alloc (Obj.cells #[.int .i64 0, .slice none 0 0] 26)).drew) wr.heap.size (wr.heap.size + 1) 24 1 (some ⟨wr.heap.size, 0, none⟩) 0 0 (fun _ => .slice none 0 0)) := ((own_empty wr _ _ nr_ (Nat.lt_succ_self _) _).alloc _).drew;have OC : Hid (Own (((wr.alloc (Obj.cells #[.int .i64 0, .slice none 0 0] 26)).alloc (Obj.cells #[] 24)).drew) wr.heap.size (wr.heap.size + 2) 24 1 (some ⟨wr.heap.size + 1, 0, none⟩) 0 0 (fun _ => .slice none 0 0)) := by have h := own_empty (wr.alloc (Obj.cells #[.int .i64 0, .slice none 0 0] 26)) wr.heap.size (wr.heap.size + 2) (by simp) (by simp) (fun _ => .slice none 0 0); have e : (wr.alloc (Obj.cells #[.int .i64 0, .slice none 0 0] 26)).heap.size = wr.heap.size + 1 := (by simp); rw [e] at h; exact h.drew
    have NB : Hid (GC (((wr.alloc (Obj.cells #[] 24)).alloc (Obj.cells #[.int .i64 0, .slice none 0 0] 26)).drew) (wr.heap.size + 1) 0 none 0 0) := by have h := GC.new (wr.alloc (Obj.cells #[] 24)) 0 none 0 0; have e : (wr.alloc (Obj.cells #[] 24)).heap.size = wr.heap.size + 1 := (by simp); rw [e] at h; exact h.drew
    have NC : Hid (GC (((wr.alloc (Obj.cells #[.int .i64 0, .slice none 0 0] 26)).alloc (Obj.cells #[] 24)).drew) wr.heap.size 0 none 0 0) := ((GC.new wr 0 none 0 0).keep (br_.alloc nr_ _)).drew;have SBC : Hid ((((wr.alloc (Obj.cells #[] 24)).alloc (Obj.cells #[.int .i64 0, .slice none 0 0] 26)).drew).heap.size = wr.heap.size + 2 ∧ (((wr.alloc (Obj.cells #[.int .i64 0, .slice none 0 0] 26)).alloc (Obj.cells #[] 24)).drew).heap.size = wr.heap.size + 2) := ⟨by show ((wr.alloc _).alloc _).heap.size = _; simp, by show ((wr.alloc _).alloc _).heap.size = _; simp⟩;have ZA : Hid (Below wr.heap.size wr ((wr.alloc (Obj.cells #[] 24)).drew)) := bl_drew (bl_alloc br_);have ZB : Hid (Below wr.heap.size wr (((wr.alloc (Obj.cells #[] 24)).alloc (Obj.cells #[.int .i64 0, .slice none 0 0] 26)).drew)) := bl_drew (bl_alloc (bl_alloc br_));have ZC : Hid (Below wr.heap.size wr (((wr.alloc (Obj.cells #[.int .i64 0, .slice none 0 0] 26)).alloc (Obj.cells #[] 24)).drew)) := bl_drew (bl_alloc (bl_alloc br_))
    have ZD : Hid (Below wr.heap.size wr ((wr.alloc (Obj.cells #[.int .i64 0, .slice none 0 0] 26)).drew)) := bl_drew (bl_alloc br_);clear hic;go_wp2;go_region_held3 (fun z => Below wr.heap.size wr z ∧ z.cell? ⟨w.heap.size, 0, none⟩ = some (.int .i64 s1) ∧ z.cell? ⟨w.heap.size, 1, none⟩ = some (.slice A1 m1 c1))
     (first | exact HS1.out | assumption | exact HSC.out _ hz7 | exact HSC.out _ (bl_alloc hz7) | exact HSC.out _ (bl_set hz7 nr_) | exact HSC.out _ (bl_set (bl_set hz7 nr_) nr_) | exact HSC.out _ (bl_set hz7 (Nat.le_succ _)) | exact HSC.out _ (bl_set (bl_set hz7 (Nat.le_succ _)) (Nat.le_succ _)) | exact HSC.out _ (bl_set hz7 hz5.size) | exact HSC.out _ (bl_set (bl_set hz7 hz5.size) hz5.size) | exact HSC.out _ (bl_set hz7 hz6.size) | exact HSC.out _ (bl_set (bl_set hz7 hz6.size) hz6.size) | exact HSC.out _ hz6 | exact HSC.out _ (bl_alloc hz6) | exact HSC.out _ hz5 | exact HSC.out _ (bl_alloc hz5) | exact HSC.out _ ZA.out | exact HSC.out _ ZB.out | exact HSC.out _ ZC.out | exact HSC.out _ ZD.out | fail)
     (first
     | ((refine step_appendW _ (by rfl) _ _ (by rfl) (by rfl) OA.out (by rfl) (H1.keep ZA.out).rd HOne.out ZA.size (by omega) (by omega) k (Nat.zero_add k) ?_; intro A5 c5 w5 hO5 hb5 hg5 ha5; have hz5 := ZA.trans hb5; clear ha5))
     | ((refine step_appendW _ (by rfl) _ _ (by rfl) (by rfl) OB.out (by rfl) (H1.keep ZB.out).rd HOne.out ZB.size (by omega) (by omega) k (Nat.zero_add k) ?_; intro A5 c5 w5 hO5 hb5 hg5 ha5; have hz5 := ZB.trans hb5; have hn5 := NB.grown hg5 (by rw [ob_some]; simp); have hq5 : (Value.slice A5 k c5).ownBlock ≠ some (wr.heap.size + 1) := (by rcases ha5 with h | h <;> rw [h] <;> first | (rw [SBC.out.1]; simp) | simp [ob_some]); clear ha5))
     | ((refine step_appendW _ (by rfl) _ _ (by rfl) (by rfl) OC.out (by rfl) (H1.keep ZC.out).rd HOne.out ZC.size (by omega) (by omega) k (Nat.zero_add k) ?_; intro A5 c5 w5 hO5 hb5 hg5 ha5; have hz5 := ZC.trans hb5; have hn5 := NC.grown hg5 (by rw [ob_some]; simp); have hq5 : (Value.slice A5 k c5).ownBlock ≠ some wr.heap.size := (by rcases ha5 with h | h <;> rw [h] <;> first | (rw [SBC.out.2]; simp) | simp [ob_some]); clear ha5))
     | ((refine step_appendW _ (by rfl) _ _ (by rfl) (by rfl) hO5 (by rfl) (H2.keep hz5).rd HOne2.out hz5.size (by omega) (by omega) (k + (D.length - (k + 1))) rfl ?_; intro A6 c6 w6 hO6 hb6 hg6 ha6; have hz6 := hz5.trans hb6; have hn6 := hn5.grown hg6 hq5; clear ha6))
     | ((refine step_appendW _ (by rfl) _ _ (by rfl) (by rfl) hO5 (by rfl) (H2.keep hz5).rd HOne2.out hz5.size (by omega) (by omega) (k + (D.length - (k + 1))) rfl ?_; intro A6 c6 w6 hO6 hb6 hg6 ha6; have hz6 := hz5.trans hb6; have hnone := hg6; clear ha6))
     | ((refine step_appendW _ (by rfl) _ _ (by rfl) (by rfl) (hO5.alloc _) (by rfl) (H2.keep (bl_alloc hz5)).rd HOne2.out (bl_alloc hz5).size (by omega) (by omega) (k + (D.length - (k + 1))) rfl ?_; intro A6 c6 w6 hO6 hb6 hg6 ha6; have hz6 := (bl_alloc hz5).trans hb6; have hn6 := (GC.new w5 0 none 0 0).grown hg6 (by intro e; have := (hO5.block _ e).2; omega); clear ha6))
     | (go_at_call 41; ((with_reducible refine (KC.out _ _ _ hz6 hO6).mono ?_); rintro e w7 ⟨A7, c7, rfl, hO7, hb7⟩; have hz7 := bl_trans hz6 hb7; have hn7 := hn6.keep hb7; have n0 := hn7.c0; have n1 := hn7.c1; have n2 := hn7.f0; have n3 := hn7.f1))
     | (go_at_call 41; ((with_reducible refine (KC.out _ _ _ hz6 hO6).mono ?_); rintro e w7 ⟨A7, c7, rfl, hO7, hb7⟩; have hz7 := bl_trans hz6 hb7))
     | (go_at_call 41; ((with_reducible refine (KC.out _ _ _ (bl_alloc hz6) (hO6.alloc _ |>.mono nr_ (by simp))).mono ?_); rintro e w7 ⟨A7, c7, rfl, hO7, hb7⟩; have hz7 := bl_trans (bl_alloc hz6) hb7; have hn7 := (GC.new w6 0 none 0 0).keep hb7; have n0 := hn7.c0; have n1 := hn7.c1; have n2 := hn7.f0; have n3 := hn7.f1))
     | fail)
    all_goals
     first
      | (obtain ⟨W8, hW8⟩ : ∃ W8, W8 = ((w7.setCell ⟨wr.heap.size, 0, none⟩ (.int .i64 (aaZ s1 m1 x1 T))).setCell ⟨wr.heap.size, 1, none⟩ (.slice A7 (aaN s1 m1 x1 T) c7)) := ⟨_, rfl⟩
         rw [← hW8];have HQ8 : Hid (GC W8 wr.heap.size (aaZ s1 m1 x1 T) A7 (aaN s1 m1 x1 T) c7) := by rw [hW8]; exact hn7.set
         have HZ8 : Hid (Below wr.heap.size wr W8) := by rw [hW8]; exact bl_set (bl_set hz7 (by have := hz5.size; have := hz6.size; omega)) (by have := hz5.size; have := hz6.size; omega)
         have HO8 : Hid (Rd W8 W8.heap.size A7 (aaN s1 m1 x1 T) c7 (aaX s1 m1 x1 T)) := by
          rw [hW8];exact ((hO7.keep (fr2 _ (wr.heap.size) _ _) (.inr (by have := hn6.lt; omega))).mono nr_ (by simp [World.setCell])).rd
         clear hW8 hn7 n0 n1 n2 n3)
      | (obtain ⟨W8, hW8⟩ : ∃ W8, W8 = ((w7.setCell ⟨wr.heap.size + 1, 0, none⟩ (.int .i64 (aaZ s1 m1 x1 T))).setCell ⟨wr.heap.size + 1, 1, none⟩ (.slice A7 (aaN s1 m1 x1 T) c7)) := ⟨_, rfl⟩
         rw [← hW8];have HQ8 : Hid (GC W8 (wr.heap.size + 1) (aaZ s1 m1 x1 T) A7 (aaN s1 m1 x1 T) c7) := by rw [hW8]; exact hn7.set
         have HZ8 : Hid (Below wr.heap.size wr W8) := by rw [hW8]; exact bl_set (bl_set hz7 (by have := hz5.size; have := hz6.size; omega)) (by have := hz5.size; have := hz6.size; omega)
         have HO8 : Hid (Rd W8 W8.heap.size A7 (aaN s1 m1 x1 T) c7 (aaX s1 m1 x1 T)) := by
          rw [hW8];exact ((hO7.keep (fr2 _ (wr.heap.size + 1) _ _) (.inr (by have := hn6.lt; omega))).mono nr_ (by simp [World.setCell])).rd
         clear hW8 hn7 n0 n1 n2 n3)
      | (obtain ⟨W8, hW8⟩ : ∃ W8, W8 = ((w7.setCell ⟨w5.heap.size, 0, none⟩ (.int .i64 (aaZ s1 m1 x1 T))).setCell ⟨w5.heap.size, 1, none⟩ (.slice A7 (aaN s1 m1 x1 T) c7)) := ⟨_, rfl⟩
         rw [← hW8];have HQ8 : Hid (GC W8 w5.heap.size (aaZ s1 m1 x1 T) A7 (aaN s1 m1 x1 T) c7) := by rw [hW8]; exact hn7.set
         have HZ8 : Hid (Below wr.heap.size wr W8) := by rw [hW8]; exact bl_set (bl_set hz7 (by have := hz5.size; have := hz6.size; omega)) (by have := hz5.size; have := hz6.size; omega)
         have HO8 : Hid (Rd W8 W8.heap.size A7 (aaN s1 m1 x1 T) c7 (aaX s1 m1 x1 T)) := by
          rw [hW8];exact ((hO7.keep (fr2 _ (w5.heap.size) _ _) (.inr (by have := hn6.lt; omega))).mono nr_ (by simp [World.setCell])).rd
         clear hW8 hn7 n0 n1 n2 n3)
      | (obtain ⟨W8, hW8⟩ : ∃ W8, W8 = ((w7.setCell ⟨w6.heap.size, 0, none⟩ (.int .i64 (aaZ s1 m1 x1 T))).setCell ⟨w6.heap.size, 1, none⟩ (.slice A7 (aaN s1 m1 x1 T) c7)) := ⟨_, rfl⟩
         rw [← hW8];have HQ8 : Hid (GC W8 w6.heap.size (aaZ s1 m1 x1 T) A7 (aaN s1 m1 x1 T) c7) := by rw [hW8]; exact hn7.set
         have HZ8 : Hid (Below wr.heap.size wr W8) := by rw [hW8]; exact bl_set (bl_set hz7 (by have := hz5.size; have := hz6.size; omega)) (by have := hz5.size; have := hz6.size; omega)
         have HO8 : Hid (Rd W8 W8.heap.size A7 (aaN s1 m1 x1 T) c7 (aaX s1 m1 x1 T)) := by
          rw [hW8];exact ((hO7.keep (fr2 _ (w6.heap.size) _ _) (.inr (by simp))).mono nr_ (by simp [World.setCell])).rd
         clear hW8 hn7 n0 n1 n2 n3)
      | (obtain ⟨W8, hW8⟩ : ∃ W8, W8 = (w7.alloc (Obj.cells #[.int .i64 (aaZ s1 m1 x1 T), .slice A7 (aaN s1 m1 x1 T) c7] 26)) := ⟨_, rfl⟩
         rw [← hW8];have HQ8 : Hid (GC W8 w7.heap.size (aaZ s1 m1 x1 T) A7 (aaN s1 m1 x1 T) c7) := by rw [hW8]; exact GC.new _ _ _ _ _
         have HZ8 : Hid (Below wr.heap.size wr W8) := by rw [hW8]; exact bl_alloc hz7
         have HO8 : Hid (Rd W8 W8.heap.size A7 (aaN s1 m1 x1 T) c7 (aaX s1 m1 x1 T)) := by rw [hW8]; exact ((hO7.alloc _).mono nr_ (by simp)).rd
         clear hW8)
      | fail
     have y0 := HQ8.c0;have y1 := HQ8.c1;have HB8 := hh_ (HBr.keep HZ8.out);have HR8 := hh_ (HR.keep HZ8.out);have hN8 : aaN s1 m1 x1 T ≤ m1 := aaN_le;clear hb5 hg5 hO5 hz5 hb6 hg6 hO6 hz6 hb7 hO7 hz7 OA OB OC NB NC ZA ZB ZC ZD HSC HZ1 HS1 KC H1 H2 HOne HOne2 HQ8;go_wp2_with fail
     refine (IsChordal_sx _ A7 _ c7 _ W8 W8.heap.size HO8.out nr_ (by omega)).mono ?_;rintro e w9 ⟨rfl, hb9⟩;have HB9 := hh_ (HB8.keep hb9);have HR9 := hh_ (HR8.keep hb9);have he : chB (aaZ s1 m1 x1 T) (aaN s1 m1 x1 T) (aaX s1 m1 x1 T) = fiB s1 m1 x1 T := rfl;rw [he, ← HT.out];obtain ⟨t, ht2⟩ : ∃ t, t = fiB s1 m1 x1 ((lists D).eraseIdx k) := ⟨_, rfl⟩;rw [← ht2];have Ht := hh_ ht2;clear ht2 he hb9 y0 y1 HO8 hN8;cases t
     ·go_wp2;go_roundw;case rel =>
       refine ⟨k + 1, by omega, by go_num, fun j hj => ?_, HR9⟩;by_cases hjk : j < k
       ·exact hall.out j hjk
       ·obtain rfl : j = k := by omega
        exact Ht.symm
      case measure => simp [intOf]; omega
     ·have hno : Hid (imfB s1 m1 x1 (lists D) = false) := imB_no (by rw [Hll.out]; exact hlt) Ht.symm;go_wp2;go_ret;exact ⟨ret_bool hno.symm, HB9.below⟩
  ·have hyes : Hid (imfB s1 m1 x1 (lists D) = true) := imB_yes Hf.out fun i hi => hall.out i (by rw [Hll.out] at hi; omega)
   have i1 : (D.length : Int) ≤ (k : Int) := by omega
   go_wp2;go_ret;exact ⟨ret_bool hyes.symm, HBr.below⟩
end Go.Proofs.YticadlkcjhglnaaGreat
