/-
-/
import Derived.Test.YtdpkbfiggbcclaaGreatQkBest
import Derived.Test.YtdpkbfiggbcclaaGreatQkGB
import Derived.Lib.AppendZeros
namespace Go.Proofs.YtdpkbfiggbcclaaGreat
open Go.RowKit
theorem zeroCells_size (n : Nat) : (Builtin.zeroCells #[Value.slice none 0 0] n).size = n := by
 simp [Builtin.zeroCells]
set_option maxHeartbeats 1000000 in
theorem Grow_i (n : Nat) (w : World) (hn : n ≤ 2097152) :
 Calls Tryz.prog 371 #[.slice none 0 0, .int .i64 n] w fun e w' => ∃ A' c', e = .returned (.slice A' 0 c') ∧ (∀ x, Own w' w.heap.size w'.heap.size 22 1 A' 0 c' x) ∧ Below w.heap.size w w' := by
 by_cases h0 : n = 0
 ·subst h0
  go_enter Tryz.func371, Tryz.ntmps371
  go_wp2
  go_ret
  exact ⟨none, 0, rfl, fun x => Own.nil _ _ _ _ _ _, Below.refl _ _⟩
 ·obtain ⟨i, hi', hzz⟩ := Option.map_eq_some_iff.1 info_ints
  simp only [Prod.mk.injEq] at hzz
  obtain ⟨hz, hsize, hbytes⟩ := hzz
  have hp : 0 < n := by omega
  have i1 : (0 : Int) < (n : Int) := by omega
  have hr := fun (ty : TypeId) => Lib.run_append_nil_zeros (P := Tryz.prog) w 48 3 ty 22 i (.slice none 0 0) .i64 .i64 Tryz.underlying48 Tryz.underlying3 hi' hz n hp (by omega) (by omega) (by rw [hbytes]; omega)
  have HR := Lib.hid hr
  have hge := grownCap_ge w n 0 22
  have hle := grownCap_le_maxLen w n 0 22 (by unfold maxLen; omega)
  obtain ⟨cap, hcap⟩ : ∃ cap, cap = grownCap w n 0 22 := ⟨_, rfl⟩
  rw [← hcap] at hge hle hr
  have Hr := Lib.hid hr
  have Hle := Lib.hid hle
  have Hge := Lib.hid hge
  clear hr h0 hz hsize hbytes hi' HR hcap hle hge
  go_enter Tryz.func371, Tryz.ntmps371
  go_wp2_with (first | (at_builtin; (refine Lib.wpList_append_run _ rfl _ _ 48 3 rfl _ _ rfl rfl _ _ (Hr.out _) ?_)))
  go_ret
  refine ⟨_, _, rfl, fun x => .inr ⟨w.heap.size, _, rfl, Nat.le_refl _, by simp, heap_alloc_new w.drew _, Nat.zero_le _, Hle.out, ?_, fun j hj => absurd hj (by omega)⟩, ((Below.refl _ _).drew).alloc (Nat.le_refl _) _⟩
  have := Hge.out
  rw [Array.size_append, zeroCells_size, zeroCells_size]
  omega
structure LV (w : World) (A : Option Addr) (n c : Nat) (x : Nat → Value) : Prop where
 rd : RdV w w.heap.size A n c x
theorem LV.keep {w w' : World} {A : Option Addr} {n c : Nat} {x : Nat → Value} (h : LV w A n c x) (hb : Below w.heap.size w w') : LV w' A n c x := ⟨h.rd.keep hb hb.size⟩
set_option maxRecDepth 100000 in
set_option maxHeartbeats 1600000 in
theorem Concat_i (q : Nat) (A1 A2 : Option Addr) (n1 n2 c1 c2 : Nat) (y1 y2 : Nat → Value) (w : World) (q0 : w.cell? ⟨q, 0, none⟩ = some (.slice A1 n1 c1)) (q1 : w.cell? ⟨q, 1, none⟩ = some (.slice A2 n2 c2)) (h1 : LV w A1 n1 c1 y1) (h2 : LV w A2 n2 c2 y2) (o1 : ∀ k, (y1 k).oneCell' = true) (o2 : ∀ k, (y2 k).oneCell' = true) (hn1 : n1 ≤ 1048576) (hn2 : n2 ≤ 1048576) :
 Calls Tryz.prog 302 #[.slice (some ⟨q, 0, none⟩) 2 2] w fun e w' => ∃ A' c', e = .returned (.slice A' (n1 + n2) c') ∧ Own w' w.heap.size w'.heap.size 22 1 A' (n1 + n2) c' (thenV n1 y1 y2) ∧ Below w.heap.size w w' := by
 have H1 := Lib.hid h1
 have H2 := Lib.hid h2
 have O1 := Lib.hid o1
 have O2 := Lib.hid o2
 have HQ0 : Hid (CL w q 0 (.slice A1 n1 c1)) := ⟨q0⟩
 have HQ1 : Hid (CL w q 1 (.slice A2 n2 c2)) := ⟨q1⟩
 clear h1 h2 o1 o2
 go_enter Tryz.func302, Tryz.ntmps302
 go_wp2
 go_loop [3, 11] (fun s i => ∃ k : Nat, k ≤ 2 ∧ i = .int .i64 k ∧ ∃ t : Nat, s = .int .i64 t ∧ Hid (t = if k = 0 then 0 else if k = 1 then n1 else n1 + n2) ∧ t ≤ 2097152) (fun _ i => 2 - (intOf i).toNat)
 case atStart => exact ⟨0, by omega, rfl, 0, rfl, by simp [Hid], by omega⟩
 case round =>
  obtain ⟨k, hk, rfl, t, rfl, ht, htl⟩ := hrel
  by_cases hlt : k < 2
  ·have : k = 0 ∨ k = 1 := by omega
   rcases this with rfl | rfl
   ·have e0 : t = 0 := ht.out
    subst e0
    go_wp2
    go_round
    case rel => exact ⟨1, by omega, by go_num, n1, by go_num, rfl, by omega⟩
    case measure => simp [intOf]
   ·have e0 : t = n1 := ht.out
    subst e0
    have e1 : ¬ (t : Int) + n2 < 0 := by omega
    go_wp2
    go_round
    case rel => exact ⟨2, by omega, by go_num, t + n2, by go_num, rfl, by omega⟩
    case measure => simp [intOf]
  ·obtain rfl : k = 2 := by omega
   have e0 : t = n1 + n2 := ht.out
   subst e0
   clear q0 q1
   go_wp2_with fail
   refine (Grow_i (n1 + n2) w (by omega)).mono ?_
   rintro e w1 ⟨A, c, rfl, hO, hb1⟩
   have HO := Lib.hid (hO (thenV n1 y1 y2))
   have HB : Hid (From w w1) := ⟨hb1⟩
   clear hO hb1
   go_wp2
   go_loopw [6, 27] (fun s i wr => ∃ (k t : Nat) (A' : Option Addr) (c' : Nat), k ≤ 2 ∧ i = .int .i64 k ∧ s = .slice A' t c' ∧ Hid (t = if k = 0 then 0 else if k = 1 then n1 else n1 + n2) ∧ Hid (Own wr w.heap.size wr.heap.size 22 1 A' t c' (thenV n1 y1 y2)) ∧ Hid (From w wr)) (fun _ i _ => 2 - (intOf i).toNat)
   case atStart => exact ⟨0, 0, A, c, by omega, rfl, rfl, rfl, HO, HB⟩
   case round =>
    obtain ⟨k, t, A', c', hk, rfl, rfl, ht, HOr, HR⟩ := hrel
    have zr := HR.out.below.size
    by_cases hlt : k < 2
    ·have : k = 0 ∨ k = 1 := by omega
     have q0 := (HQ0.out.keep HR.out.below).c
     have q1 := (HQ1.out.keep HR.out.below).c
     have HL1 := Lib.hid (H1.out.keep HR.out.below)
     have HL2 := Lib.hid (H2.out.keep HR.out.below)
     rcases this with rfl | rfl
     ·have e0 : t = 0 := ht.out
      subst e0
      go_wp2_with (first | (at_builtin; (refine wpList_appendV wr rfl _ _ rfl rfl HOr.out rfl HL1.out.rd O1.out zr (by omega) (by omega) ?_; intro A3 c3 w3 hO3 hb3)))
      have HO3 : Hid (Own w3 w.heap.size w3.heap.size 22 1 A3 (0 + n1) c3 (thenV n1 y1 y2)) := hO3.congr (fun j hj => by unfold thenV; rw [if_neg (by omega), if_pos (by omega)]; rfl)
      have HB3 : Hid (From w w3) := ⟨HR.out.below.trans hb3⟩
      clear hO3 hb3 HOr HR
      go_roundw
      case rel => exact ⟨1, n1, A3, c3, by omega, by go_num, rfl, rfl, by have := HO3; rw [Nat.zero_add] at this; exact this, HB3⟩
      case measure => simp [intOf]
     ·have e0 : t = n1 := ht.out
      subst e0
      go_wp2_with (first | (at_builtin; (refine wpList_appendV wr rfl _ _ rfl rfl HOr.out rfl HL2.out.rd O2.out zr (by omega) (by omega) ?_; intro A3 c3 w3 hO3 hb3)))
      have HO3 : Hid (Own w3 w.heap.size w3.heap.size 22 1 A3 (t + n2) c3 (thenV t y1 y2)) := hO3.congr (fun j hj => by unfold thenV; by_cases h : j < t <;> simp [h])
      have HB3 : Hid (From w w3) := ⟨HR.out.below.trans hb3⟩
      clear hO3 hb3 HOr HR
      go_roundw
      case rel => exact ⟨2, t + n2, A3, c3, by omega, by go_num, rfl, rfl, HO3, HB3⟩
      case measure => simp [intOf]
    ·obtain rfl : k = 2 := by omega
     have e0 : t = n1 + n2 := ht.out
     subst e0
     go_wp2
     go_ret
     exact ⟨A', c', rfl, HOr.out, HR.out.below⟩
structure LD (w : World) (A : Option Addr) (c : Nat) (D : List Dsc) : Prop where
 rd : RdD w w.heap.size A c D
theorem LD.keep {w w' : World} {A : Option Addr} {c : Nat} {D : List Dsc} (h : LD w A c D) (hb : Below w.heap.size w w') : LD w' A c D := ⟨h.rd.keep hb hb.size⟩
theorem dvs_one (D : List Dsc) (k : Nat) : (dvs D k).oneCell' = true := rfl
theorem getD_erase (D : List Dsc) (i j : Nat) (d : Dsc) : (D.eraseIdx i).getD j d = if j < i then D.getD j d else D.getD (j + 1) d := by
 simp only [List.getD, List.getElem?_eraseIdx]
 split <;> rfl
theorem lists_erase (D : List Dsc) (i : Nat) : lists (D.eraseIdx i) = (lists D).eraseIdx i := by
 unfold lists
 apply List.ext_getElem?
 intro j
 simp only [List.getElem?_map, List.getElem?_eraseIdx]
 split <;> rfl
theorem LD.pre {w : World} {A : Option Addr} {c i : Nat} {D : List Dsc} (h : LD w A c D) (hi : i ≤ D.length) : LV w A i c (dvs D) :=
 ⟨by have := h.rd.1.1; omega, fun hn => by
   obtain ⟨b, o, e, hb, hc⟩ := h.rd.1.2 (by omega)
   exact ⟨b, o, e, hb, fun k hk => hc k (by omega)⟩⟩
theorem LD.post {w : World} {b o c i : Nat} {D : List Dsc} (h : LD w (some ⟨b, o, none⟩) c D) (hi : i < D.length) (hc : i + 1 < c) : LV w (some ⟨b, o + (i + 1), none⟩) (D.length - (i + 1)) (c - (i + 1)) (fun j => dvs D (i + 1 + j)) :=
 ⟨by have := h.rd.1.1; omega, fun hn => by
   obtain ⟨b', o', e, hb, hc⟩ := h.rd.1.2 (by omega)
   simp only [Option.some.injEq, Addr.mk.injEq, and_true] at e
   obtain ⟨rfl, rfl⟩ := e
   exact ⟨b, o + (i + 1), rfl, hb, fun k hk => by rw [Nat.add_assoc]; exact hc (i + 1 + k) (by omega)⟩⟩
theorem LD.erase {w' : World} {A A' : Option Addr} {c c' i lo : Nat} {D : List Dsc} (h : LD w' A c D) (hi : i < D.length) (hO : Own w' lo w'.heap.size 22 1 A' (i + (D.length - (i + 1))) c' (thenV i (dvs D) (fun j => dvs D (i + 1 + j)))) : LD w' A' c' (D.eraseIdx i) := by
 have hl : (D.eraseIdx i).length = i + (D.length - (i + 1)) := by rw [List.length_eraseIdx_of_lt hi]; omega
 refine ⟨?_, fun d hd => h.rd.2 d (List.mem_of_mem_eraseIdx hd)⟩
 rw [hl]
 refine (hO.congr (fun j hj => ?_)).rdV
 unfold thenV dvs
 rw [getD_erase]
 by_cases hj2 : j < i
 ·rw [if_pos hj2, if_pos hj2]
 ·rw [if_neg hj2, if_neg hj2]
  show dv (D.getD (i + 1 + (j - i)) _) = _
  rw [show i + 1 + (j - i) = j + 1 by omega]
set_option maxRecDepth 100000 in
set_option maxHeartbeats 1600000 in
theorem withoutEdge_i (A : Option Addr) (c : Nat) (D : List Dsc) (i : Nat) (w : World) (h : LD w A c D) (hi : i < D.length) (hd : D.length ≤ 1048576) :
 Calls Tryz.prog 171 #[.slice A D.length c, .int .i64 i] w fun e w' => ∃ A' c', e = .returned (.slice A' (D.eraseIdx i).length c') ∧ LD w' A' c' (D.eraseIdx i) ∧ Below w.heap.size w w' := by
 have hl : (D.eraseIdx i).length = i + (D.length - (i + 1)) := by rw [List.length_eraseIdx_of_lt hi]; omega
 rw [hl]
 obtain ⟨b, o, rfl, hb, _⟩ := h.rd.1.2 (by omega)
 have hc := h.rd.1.1
 have H := Lib.hid h
 have H1 := Lib.hid (h.pre (i := i) (by omega))
 obtain ⟨n, hn⟩ : ∃ n, n = D.length := ⟨_, rfl⟩
 have i1 : (0 : Int) ≤ (i : Int) := by omega
 have i2 : (i : Int) ≤ (c : Int) := by omega
 have i3 : IntKind.i64.wrap ((i : Int) + 1) = (i : Int) + 1 := Go.IntWalk.i64_in _ (by omega)
 have i4 : (0 : Int) ≤ (i : Int) + 1 := by omega
 have i5 : (i : Int) + 1 ≤ (D.length : Int) := by omega
 have i6 : ((i : Int) + 1).toNat = i + 1 := by omega
 have HZ1 : Hid (Below w.heap.size w w.drew) := (Below.refl _ _).drew
 have post : ∀ (A2 : Option Addr) (c2 : Nat), LV w A2 (D.length - (i + 1)) c2 (fun j => dvs D (i + 1 + j)) → ∀ W : World, Below w.heap.size w W → W.cell? ⟨w.heap.size, 0, none⟩ = some (.slice (some ⟨b, o, none⟩) i c) → W.cell? ⟨w.heap.size, 1, none⟩ = some (.slice A2 (D.length - (i + 1)) c2) → Calls Tryz.prog 302 #[.slice (some ⟨w.heap.size, 0, none⟩) 2 2] W fun e w' => ∃ A' c', e = .returned (.slice A' (i + (D.length - (i + 1))) c') ∧ LD w' A' c' (D.eraseIdx i) ∧ Below w.heap.size w w' := by
  intro A2 c2 h2 W hb q0 q1
  refine (Concat_i w.heap.size (some ⟨b, o, none⟩) A2 i (D.length - (i + 1)) c c2 _ _ W q0 q1 (H1.out.keep hb) (h2.keep hb) (dvs_one D) (fun _ => dvs_one D _) (by omega) (by omega)).mono ?_
  rintro e w' ⟨A', c', he, hO, hb2⟩
  exact ⟨A', c', he, LD.erase ((H.out.keep hb).keep hb2) hi hO, bl_trans hb hb2⟩
 have HP := Lib.hid post
 by_cases hic : i + 1 < c
 ·have H2 := Lib.hid (h.post hi hic)
  have hci : (c = i + 1) = False := by simp; omega
  have KC : Hid (∀ W : World, W = (w.alloc (Obj.cells #[.slice (some ⟨b, o, none⟩) i c, .slice (some ⟨b, o + (i + 1), none⟩) (D.length - (i + 1)) (c - (i + 1))] 48)).drew → _) := fun W hW => HP.out _ _ H2.out W (by rw [hW]; exact bl_drew (bl_alloc (Below.refl _ _))) (by rw [hW]; simp [go_sem]) (by rw [hW]; simp [go_sem])
  clear h post hi hic
  go_enter Tryz.func171, Tryz.ntmps171
  go_wp2
  go_region_held3 (fun z => Below w.heap.size w z)
   (first | exact HZ1.out | assumption | exact bl_alloc HZ1.out | fail)
   (first | (go_at_call 302; ((with_reducible refine (KC.out _ rfl).mono ?_); rintro e w1 ⟨A', c', rfl, hL, hb⟩)))
  have HL := Lib.hid hL
  have HB := Lib.hid hb
  clear hL hb
  go_wp2
  go_ret
  exact ⟨A', c', rfl, HL.out, HB.out⟩
 ·have hci : (c = i + 1) = True := by simp; omega
  have hz : D.length - (i + 1) = 0 := by omega
  have H2 : Hid (LV w (some ⟨b, o, none⟩) (D.length - (i + 1)) (c - (i + 1)) (fun j => dvs D (i + 1 + j))) := ⟨⟨by omega, fun h => by omega⟩⟩
  have KC : Hid (∀ W : World, W = (w.alloc (Obj.cells #[.slice (some ⟨b, o, none⟩) i c, .slice (some ⟨b, o, none⟩) (D.length - (i + 1)) (c - (i + 1))] 48)).drew → _) := fun W hW => HP.out _ _ H2.out W (by rw [hW]; exact bl_drew (bl_alloc (Below.refl _ _))) (by rw [hW]; simp [go_sem]) (by rw [hW]; simp [go_sem])
  clear h post hi hic hz
  go_enter Tryz.func171, Tryz.ntmps171
  go_wp2
  go_region_held3 (fun z => Below w.heap.size w z)
   (first | exact HZ1.out | assumption | exact bl_alloc HZ1.out | fail)
   (first | (go_at_call 302; ((with_reducible refine (KC.out _ rfl).mono ?_); rintro e w1 ⟨A', c', rfl, hL, hb⟩)))
  have HL := Lib.hid hL
  have HB := Lib.hid hb
  clear hL hb
  go_wp2
  go_ret
  exact ⟨A', c', rfl, HL.out, HB.out⟩
end Go.Proofs.YtdpkbfiggbcclaaGreat
