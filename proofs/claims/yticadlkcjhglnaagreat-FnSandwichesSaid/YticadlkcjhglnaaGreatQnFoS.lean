/-
  Several texts in one.
-/
import Derived.Test.YticadlkcjhglnaaGreatQnFoI
import Derived.Test.YticadlkcjhglnaaGreatQnGA
/-
-/
namespace Go.Proofs.YticadlkcjhglnaaGreat
open Go.RowKit
section
variable {r : Nat → Nat} {m b : Nat} {E : List (Nat × Nat)}
theorem wbR_out (h : EdN r m E) {v u : Nat} (hvu : v < u) (hn : (v, u) ∉ E) : ∀ i, i ≤ E.length → (wbR r E b i v).testBit u = (r v).testBit u := by
 intro i
 induction i with
 | zero => exact fun _ => rfl
 | succ i ih =>
   intro hi
   have hv := ih (by omega)
   cases hb : b.testBit i
   ·rw [wbR_no hb]; exact hv
   ·rw [wbR_yes hb, addN_other (h.inc _ (getP_mem (show i < E.length by omega))).1 hvu]
    ·exact hv
    ·rintro ⟨h1, h2⟩
     have h3 := getP_mem (E := E) (show i < E.length by omega)
     rw [show E.getD i (0, 0) = (v, u) from Prod.ext h1 h2] at h3
     exact hn h3
theorem wbR_in (h : EdN r m E) {k : Nat} (hk : k < E.length) (hb : b.testBit k = true) : ∀ i, k < i → i ≤ E.length → (wbR r E b i (E.getD k (0, 0)).1).testBit (E.getD k (0, 0)).2 = true := by
 intro i
 induction i with
 | zero => intro h0; omega
 | succ i ih =>
   intro hki hi
   by_cases e : k = i
   ·subst e
    rw [wbR_yes hb]
    unfold addN
    rw [if_pos rfl, Nat.testBit_xor, wbR_bit h hk k (Nat.le_refl _), Nat.testBit_two_pow]
    simp
   ·have hv := ih (by omega) (by omega)
    cases hb2 : b.testBit i
    ·rw [wbR_no hb2]; exact hv
    ·rw [wbR_yes hb2, addN_other (h.inc _ (getP_mem (show i < E.length by omega))).1 (h.inc _ (getP_mem hk)).1]
     ·exact hv
     ·rintro ⟨h1, h2⟩
      exact getP_ne h.nd (show k < i by omega) (show i < E.length by omega) (Prod.ext h1 h2).symm
theorem fold_and {j : Nat} : ∀ (L : List Nat) (a : Nat), (L.foldl (fun a b => a &&& b) a).testBit j = true → a.testBit j = true ∧ ∀ b ∈ L, b.testBit j = true := by
 intro L
 induction L with
 | nil => exact fun a h => ⟨h, fun b hb => by cases hb⟩
 | cons c L ih =>
   intro a h
   obtain ⟨h1, h2⟩ := ih _ h
   rw [Nat.testBit_and, Bool.and_eq_true] at h1
   exact ⟨h1.1, fun b hb => by
    rcases List.mem_cons.1 hb with rfl | hb
    ·exact h1.2
    ·exact h2 b hb⟩
end
section
variable {r s : Nat → Nat} {m b : Nat}
theorem wbR_sub (vr : VG m r) (hs : VG m s) (hrs : ∀ v, v < m → r v &&& s v = r v) {v : Nat} (hv : v < m) :
 r v &&& wbR r (swE r s m) b (swE r s m).length v = r v ∧ wbR r (swE r s m) b (swE r s m).length v &&& s v = wbR r (swE r s m) b (swE r s m).length v := by
 have hE := swE_new r s m
 have vg := wbR_vg (b := b) vr hE _ (Nat.le_refl _)
 have key : ∀ v u, v < u → u < m → ((r v).testBit u = true → (wbR r (swE r s m) b (swE r s m).length v).testBit u = true) ∧ ((wbR r (swE r s m) b (swE r s m).length v).testBit u = true → (s v).testBit u = true) := by
  intro v u hvu hu
  have hsub : (r v).testBit u = true → (s v).testBit u = true := fun h => by
   have := congrArg (fun z => z.testBit u) (hrs v (by omega))
   simp only [Nat.testBit_and, h, Bool.true_and] at this
   exact this
  by_cases hm : (v, u) ∈ swE r s m
  ·refine ⟨fun h => ?_, fun _ => ?_⟩
   ·have := hE.new _ hm
    rw [show (r (v, u).1).testBit (v, u).2 = (r v).testBit u from rfl, h] at this; cases this
   ·unfold swE at hm
    have := (List.mem_filter.1 (List.mem_filter.1 hm).1).2
    simpa using this
  ·rw [wbR_out hE hvu hm _ (Nat.le_refl _)]
   exact ⟨id, hsub⟩
 have both : ∀ v u, v < m → u < m → ((r v).testBit u = true → (wbR r (swE r s m) b (swE r s m).length v).testBit u = true) ∧ ((wbR r (swE r s m) b (swE r s m).length v).testBit u = true → (s v).testBit u = true) := by
  intro v u hv hu
  rcases Nat.lt_trichotomy v u with h | h | h
  ·exact key v u h hu
  ·subst h
   rw [vr.irr v hv, vg.irr v hv]
   exact ⟨fun h => (by cases h), fun h => (by cases h)⟩
  ·rw [vr.sym v u hv hu, vg.sym v u hv hu, hs.sym v u hv hu]
   exact key u v h hv
 constructor
 ·refine Nat.eq_of_testBit_eq fun u => ?_
  rw [Nat.testBit_and]
  cases hb : (r v).testBit u
  ·rfl
  ·rw [(both v u hv (bit_lt (vr.lt v hv) hb)).1 hb]; rfl
 ·refine Nat.eq_of_testBit_eq fun u => ?_
  rw [Nat.testBit_and]
  cases hb : (wbR r (swE r s m) b (swE r s m).length v).testBit u
  ·rfl
  ·rw [(both v u hv (bit_lt (vg.lt v hv) hb)).2 hb]; rfl
end
section
variable {s1 : Int} {m1 : Nat} {x1 : Nat → Int} {s2 : Int} {m2 : Nat} {x2 : Nat → Int} {s : List UInt8} {b : Nat}
theorem csI_pos : decide (0 < csI s1 m1 x1 s2 m2 x2 s) = (fsO s1 m1 x1 s2 m2 x2 s).isSome := by
 unfold csI fsO
 by_cases hc : wiB s1 m1 x1 s2 m2 x2 = true ∧ (swE (rw_ x1) (rw_ x2) m2).length ≤ 6
 ·rw [if_pos hc, if_pos hc]
  cases sdwL (rw_ x1) m2 (swE (rw_ x1) (rw_ x2) m2) s with
  | nil => rfl
  | cons a t =>
    have : (0 : Int) < ((a :: t).length : Nat) := by rw [List.length_cons]; omega
    rw [decide_eq_true this]; rfl
 ·rw [if_neg hc, if_neg hc]; rfl
theorem fnd (h : fsO s1 m1 x1 s2 m2 x2 s = some b) : ∃ r, VG m2 r ∧ fsN s1 m1 x1 s2 m2 x2 s = m2 ∧ (∀ j, fsX s1 m1 x1 s2 m2 x2 s j = (r j : Int)) ∧ wiB s1 m1 x1 m2 m2 (fun j => (r j : Int)) = true ∧ wiB m2 m2 (fun j => (r j : Int)) s2 m2 x2 = true ∧ isV r m2 s = true ∧ ∀ l ∈ foL s1 m1 x1 s2 m2 x2 s, ∃ v u : Nat, l = [(v : Int), (u : Int)] ∧ v < u ∧ u < m2 ∧ (r v).testBit u = true := by
 have hs : (fsO s1 m1 x1 s2 m2 x2 s).isSome = true := by rw [h]; rfl
 have hN : fsN s1 m1 x1 s2 m2 x2 s = m2 := by unfold fsN; rw [h]
 have hX : ∀ j, fsX s1 m1 x1 s2 m2 x2 s j = ((wbR (rw_ x1) (swE (rw_ x1) (rw_ x2) m2) b (swE (rw_ x1) (rw_ x2) m2).length j : Nat) : Int) := fun j => by unfold fsX; rw [h]
 unfold fsO at h
 by_cases hc : wiB s1 m1 x1 s2 m2 x2 = true ∧ (swE (rw_ x1) (rw_ x2) m2).length ≤ 6
 ·rw [if_pos hc] at h
  have hmem : b ∈ sdwL (rw_ x1) m2 (swE (rw_ x1) (rw_ x2) m2) s := List.mem_of_head? h
  have hB : sdwB (rw_ x1) m2 (swE (rw_ x1) (rw_ x2) m2) s b = true := by
   unfold sdwL sdwK at hmem
   exact (List.mem_filter.1 hmem).2
  obtain ⟨o1, o2, e1, e2, e3, _⟩ := sw_within hc.1
  obtain ⟨_, _, _, hsub⟩ := wiB_is hc.1
  subst e1 e2 e3
  obtain ⟨v1, _⟩ := okB_vg o1
  obtain ⟨v2, _⟩ := okB_vg o2
  have hE := swE_new (rw_ x1) (rw_ x2) m1
  have vg := wbR_vg (b := b) v1 hE _ (Nat.le_refl _)
  have hok : OkG m1 m1 (fun j => ((wbR (rw_ x1) (swE (rw_ x1) (rw_ x2) m1) b (swE (rw_ x1) (rw_ x2) m1).length j : Nat) : Int)) := ⟨_, rfl, vg, fun _ _ => rfl⟩
  have hbt : ∀ v, v < m1 → _ := fun v hv => wbR_sub (b := b) v1 v2 hsub hv
  refine ⟨_, vg, hN, hX, wiB_yes ⟨okB_ok o1, hok, rfl, fun v hv => (hbt v hv).1⟩, wiB_yes ⟨hok, okB_ok o2, rfl, fun v hv => (hbt v hv).2⟩, hB, fun l hl => ?_⟩
  unfold foL at hl
  rw [if_pos hs] at hl
  unfold PrE at hl
  obtain ⟨p, hp, rfl⟩ := List.mem_map.1 hl
  unfold foE at hp
  obtain ⟨i, hi, rfl⟩ := List.mem_map.1 hp
  unfold foI at hi
  obtain ⟨hi1, hi2⟩ := List.mem_filter.1 hi
  have hil := List.mem_range.1 hi1
  have hib := (fold_and _ _ hi2).2 b hmem
  have hin := hE.inc _ (getP_mem hil)
  exact ⟨_, _, rfl, hin.1, hin.2, wbR_in hE hil hib _ hil (Nat.le_refl _)⟩
 ·rw [if_neg hc] at h; cases h
end
end Go.Proofs.YticadlkcjhglnaaGreat

/-
-/
namespace Go.Proofs.YticadlkcjhglnaaGreat
open Go.RowKit
noncomputable def foK (r : Nat → Nat) (m : Nat) (E : List (Nat × Nat)) (s : List UInt8) (k : Nat) : Nat := foC E.length (sdwK r m E s k)
noncomputable def foF (r : Nat → Nat) (m : Nat) (E : List (Nat × Nat)) (s : List UInt8) (k : Nat) : Bool := !(sdwK r m E s k).isEmpty
section
variable {r : Nat → Nat} {m k : Nat} {E : List (Nat × Nat)} {s : List UInt8}
theorem foK_yes (h : sdwB r m E s k = true) : foK r m E s (k + 1) = foK r m E s k &&& k := by
 unfold foK foC; rw [sdwK_yes h, List.foldl_append]; rfl
theorem foK_no (h : sdwB r m E s k = false) : foK r m E s (k + 1) = foK r m E s k := by unfold foK; rw [sdwK_no h]
theorem foF_yes (h : sdwB r m E s k = true) : foF r m E s (k + 1) = true := by unfold foF; rw [sdwK_yes h]; simp
theorem foF_no (h : sdwB r m E s k = false) : foF r m E s (k + 1) = foF r m E s k := by unfold foF; rw [sdwK_no h]
theorem foK_le : foK r m E s k ≤ 2 ^ E.length - 1 := and_fold_le _ _
end
section
variable (s1 : Int) (A1 : Option Addr) (m1 c1 : Nat) (x1 : Nat → Int) (s2 : Int) (A2 : Option Addr) (m2 c2 : Nat) (x2 : Nat → Int) (str : ByteArray) (w : World)
set_option maxRecDepth 100000 in
set_option maxHeartbeats 12800000 in
theorem ForcedEdges_s (h1 : GA w A1 m1 c1 x1) (h2 : GA w A2 m2 c2 x2) (hm1 : m1 ≤ 1048576) (hm2 : m2 ≤ 1048576) :
 Calls Tryz.prog 11 #[.agg #[.int .i64 s1, .slice A1 m1 c1], .agg #[.int .i64 s2, .slice A2 m2 c2], .string str] w (foQ s1 m1 x1 s2 m2 x2 str.toList w) := by
 obtain ⟨W, hW⟩ : ∃ W : World, W = ((w.alloc (Obj.cells #[Value.int IntKind.i64 s1, Value.slice A1 m1 c1] 26)).alloc (Obj.cells #[Value.int IntKind.i64 s2, Value.slice A2 m2 c2] 26)) := ⟨_, rfl⟩
 have HB : Hid (From w W) := by rw [hW]; exact (From.alloc _ _).alloc_ _
 have HC : Hid (TwoG W w.heap.size s1 A1 m1 c1 s2 A2 m2 c2) := by rw [hW]; exact TwoG.new _ _ _ _ _ _ _ _ _
 have HK1 := Lib.hid (h1.keep HB.out.below)
 have HK2 := Lib.hid (h2.keep HB.out.below)
 have HW := Lib.hid hW
 have KO := Lib.hid (OptionalEdges_s s1 A1 m1 c1 x1 s2 A2 m2 c2 x2 W W.heap.size HK1.out.rd HK2.out.rd (Nat.le_refl _) hm1 hm2)
 have Hd : Hid (fsO s1 m1 x1 s2 m2 x2 str.toList = if wiB s1 m1 x1 s2 m2 x2 = true ∧ (swE (rw_ x1) (rw_ x2) m2).length ≤ 6 then (sdwL (rw_ x1) m2 (swE (rw_ x1) (rw_ x2) m2) str.toList).head? else none) := rfl
 have Hno : Hid (fsO s1 m1 x1 s2 m2 x2 str.toList = none → ∀ e w' A c, e = .returned (.tuple #[.slice A 0 c, .bool false]) → OwnD w' w.heap.size w'.heap.size A c [] → Below w.heap.size w w' → foQ s1 m1 x1 s2 m2 x2 str.toList w e w') := fun h e w' A c h2 h3 h4 => foQ_no h h2 h3 h4
 have hzW := HB.out.below.size
 have HND : Hid (∀ z : World, w.heap.size ≤ z.heap.size → OwnD (z.alloc (Obj.cells #[] 24)) w.heap.size (z.alloc (Obj.cells #[] 24)).heap.size (some ⟨z.heap.size, 0, none⟩) 0 []) := fun z hz => OwnD.none_ _ _ _ _ hz (by simp) (heap_alloc_new z _)
 obtain ⟨wi, hwi⟩ : ∃ wi, wi = wiB s1 m1 x1 s2 m2 x2 := ⟨_, rfl⟩
 rw [← hwi] at KO
 have Hwi : Hid (wi = wiB s1 m1 x1 s2 m2 x2) := hwi
 clear hW h1 h2 hwi
 have b0 := HC.out.g1.c0
 have b1 := HC.out.g1.c1
 have b2 := HC.out.g2.c0
 have b3 := HC.out.g2.c1
 cases wi
 ·have Hn : Hid (fsO s1 m1 x1 s2 m2 x2 str.toList = none) := by show _ = _; rw [Hd.out, if_neg (fun h => by rw [← Hwi.out] at h; exact absurd h.1 (by simp))]
  have Hx := Lib.hid (Hno.out Hn.out)
  clear Hd Hno
  go_enter Tryz.func11, Tryz.ntmps11
  go_wp2_with fail
  rw [← HW.out]
  clear HW b0 b1 b2 b3
  refine KO.out.mono ?_
  rintro e w1 ⟨A', c', D, rfl, _, _, hb1⟩
  have HB1 := Lib.hid (HB.out.keep hb1)
  have HE := Lib.hid (HB1.out.alloc_ (Obj.cells #[] 24))
  have HN1 := Lib.hid (HND.out w1 HB1.out.below.size)
  clear hb1 KO HB
  go_wp2
  go_ret2
  exact Hx.out _ _ _ _ rfl HN1.out HE.out.below
 ·obtain ⟨ho1, ho2, hmm, es1, es2, hopt⟩ := sw_within Hwi.out.symm
  subst hmm
  subst es1
  subst es2
  rw [hopt] at KO
  have HG : Hid (GV W A1 m1 c1 (rw_ x1)) := HK1.out.gv ho1
  have hn7 := HG.out.vg.n7
  have HEN := Lib.hid (swE_new (rw_ x1) (rw_ x2) m1)
  have hl21 := swE_len (r := rw_ x1) (s := rw_ x2) hn7
  have Hy0 : Hid ((swE (rw_ x1) (rw_ x2) m1).length ≤ 6 → fsO (m1 : Int) m1 x1 (m1 : Int) m1 x2 str.toList = (sdwL (rw_ x1) m1 (swE (rw_ x1) (rw_ x2) m1) str.toList).head?) := fun h6 => by rw [Hd.out, if_pos ⟨Hwi.out.symm, h6⟩]
  have Hn0 : Hid (¬ (swE (rw_ x1) (rw_ x2) m1).length ≤ 6 → fsO (m1 : Int) m1 x1 (m1 : Int) m1 x2 str.toList = none) := fun h6 => by rw [Hd.out, if_neg (fun h => h6 h.2)]
  have Hyes : Hid (∀ b, fsO (m1 : Int) m1 x1 (m1 : Int) m1 x2 str.toList = some b → ∀ e w' A c D, e = .returned (.tuple #[.slice A D.length c, .bool true]) → lists D = PrE (foE (swE (rw_ x1) (rw_ x2) m1) (foC (swE (rw_ x1) (rw_ x2) m1).length (sdwL (rw_ x1) m1 (swE (rw_ x1) (rw_ x2) m1) str.toList)) (swE (rw_ x1) (rw_ x2) m1).length) → OwnD w' w.heap.size w'.heap.size A c D → Below w.heap.size w w' → foQ (m1 : Int) m1 x1 (m1 : Int) m1 x2 str.toList w e w') := fun b h e w' A c D h2 h3 h4 h5 => foQ_yes h h2 h3 h4 h5
  obtain ⟨r, hr⟩ : ∃ r, r = rw_ x1 := ⟨_, rfl⟩
  rw [← hr] at KO HEN hl21 Hy0 Hn0 HG Hyes
  obtain ⟨E, hE⟩ : ∃ E, E = swE r (rw_ x2) m1 := ⟨_, rfl⟩
  rw [← hE] at KO HEN hl21 Hy0 Hn0 Hyes
  clear hopt hr hE HK1 HK2 ho1 ho2 Hd
  go_enter Tryz.func11, Tryz.ntmps11
  go_wp2_with fail
  rw [← HW.out]
  clear HW b0 b1 b2 b3
  refine KO.out.mono ?_
  rintro e w1 ⟨A', c', D, rfl, hld, hod, hb1⟩
  have hlen := lists_lenE hld
  rw [hlen]
  have Hlen := Lib.hid hlen
  have HL := Lib.hid hld
  have HD1 := Lib.hid hod
  have HC1 := Lib.hid (HC.out.g1.keep hb1)
  have HB1 := Lib.hid (HB.out.keep hb1)
  have HG1 := Lib.hid (HG.out.keep hb1)
  have hz1 := hb1.size
  clear hb1 KO hod hld hlen HC HB HG
  by_cases h6 : E.length ≤ 6
  ·have i6 : (E.length : Int) ≤ 6 := by omega
   have Hy := Lib.hid (Hy0.out h6)
   have h2l := Nat.pow_le_pow_right (n := 2) (by omega) h6
   have h2p := Nat.two_pow_pos E.length
   have ps := pow_shl E.length (by omega)
   have HfinL : Hid (foK r m1 E str.toList (2 ^ E.length) = foC E.length (sdwL r m1 E str.toList)) := rfl
   have HfinF : Hid (foF r m1 E str.toList (2 ^ E.length) = !(sdwL r m1 E str.toList).isEmpty) := rfl
   have Hle : Hid (∀ k, foK r m1 E str.toList k ≤ 2 ^ E.length - 1) := fun k => foK_le
   have Hk0 : Hid (foK r m1 E str.toList 0 = 2 ^ E.length - 1) := rfl
   have Hf0 : Hid (foF r m1 E str.toList 0 = false) := rfl
   obtain ⟨F, hF⟩ : ∃ F, F = 2 ^ E.length := ⟨_, rfl⟩
   have pF : IntKind.i64.wrap ((2 : Int) ^ E.length) = (F : Int) := by rw [ps, hF]; simp
   rw [← hF] at HfinL HfinF h2l h2p Hle Hk0
   have hF64 : F ≤ 64 := h2l
   have sF : IntKind.i64.wrap ((F : Int) - 1) = ((F - 1 : Nat) : Int) := by rw [Go.IntWalk.i64_in _ (by omega)]; omega
   clear hF ps Hn0 Hy0
   go_wp2
   go_loopw [10, 11, 12] (fun cm f i wr => ∃ k : Nat, k ≤ F ∧ i = .int .i64 k ∧ cm = .int .i64 (foK r m1 E str.toList k : Nat) ∧ f = .bool (foF r m1 E str.toList k) ∧ Hid (From w1 wr)) (fun _ _ i _ => F - (intOf i).toNat)
   case atStart => exact ⟨0, Nat.zero_le _, rfl, by rw [Hk0.out], by rw [Hf0.out], From.refl _⟩
   case round =>
    obtain ⟨k, hk, rfl, rfl, rfl, HR⟩ := hrel
    have HB := Lib.hid (HB1.out.up HR.out)
    have HG := Lib.hid (HG1.out.keep HR.out.below)
    have HC := Lib.hid (HC1.out.keep HR.out.below)
    have hzr := HR.out.below.size
    have HDr : Hid (OwnD wr W.heap.size w1.heap.size A' c' D) := HD1.out.keepB HR.out.below (Nat.le_refl _)
    have hle := Hle.out k
    by_cases hkf : k < F
    ·have i1 : (k : Int) < (F : Int) := by omega
     have KW := Lib.hid (l31With_sv HG.out HEN.out (show k < 16777216 by omega) hl21 HDr.out hzr HL.out)
     have Hno1 : Hid (sdwB r m1 E str.toList k = false → foK r m1 E str.toList (k + 1) = foK r m1 E str.toList k ∧ foF r m1 E str.toList (k + 1) = foF r m1 E str.toList k) := fun h => ⟨foK_no h, foF_no h⟩
     have Hyes1 : Hid (sdwB r m1 E str.toList k = true → foK r m1 E str.toList (k + 1) = foK r m1 E str.toList k &&& k ∧ foF r m1 E str.toList (k + 1) = true) := fun h => ⟨foK_yes h, foF_yes h⟩
     have KI : Hid (∀ {z : World} {A' : Option Addr} {c' : Nat}, GV z A' m1 c' (wbR r E k E.length) → Calls Tryz.prog 16 #[.agg #[.int .i64 m1, .slice A' m1 c'], .string str] z fun e w' => e = .returned (.bool (sdwB r m1 E str.toList k)) ∧ Below z.heap.size z w') := fun h => IsIn_sv h str
     obtain ⟨b, hb⟩ : ∃ b, b = sdwB r m1 E str.toList k := ⟨_, rfl⟩
     rw [← hb] at Hno1 Hyes1 KI
     obtain ⟨R, hR⟩ : ∃ R, R = wbR r E k E.length := ⟨_, rfl⟩
     rw [← hR] at KW KI
     obtain ⟨cm, hcm⟩ : ∃ cm, cm = foK r m1 E str.toList k := ⟨_, rfl⟩
     obtain ⟨f, hf⟩ : ∃ f, f = foF r m1 E str.toList k := ⟨_, rfl⟩
     rw [← hcm] at Hno1 Hyes1 hle ⊢
     rw [← hf] at Hno1 ⊢
     have E2 := i64_and_nat cm k (by omega) (by omega)
     clear hb hR HDr hcm hf
     have e0 := HC.out.c0
     have e1 := HC.out.c1
     go_wp2_with fail
     refine KW.out.mono ?_
     rintro e w2 ⟨A5, c5, rfl, hg5, _, hb2⟩
     have KJ := Lib.hid (KI.out hg5)
     clear e0 e1
     replace HR := Lib.hid (HR.out.keep hb2)
     replace HB := Lib.hid (HB.out.keep hb2)
     replace HC := Lib.hid (HC.out.keep hb2)
     clear hb2 hg5 KW KI
     have e0 := HC.out.c0
     have e1 := HC.out.c1
     go_wp2_with fail
     refine KJ.out.mono ?_
     rintro e w3 ⟨rfl, hb3⟩
     clear e0 e1
     replace HR := Lib.hid (HR.out.keep hb3)
     replace HB := Lib.hid (HB.out.keep hb3)
     replace HC := Lib.hid (HC.out.keep hb3)
     clear hb3 KJ
     have e0 := HC.out.c0
     have e1 := HC.out.c1
     cases b
     ·have Hn := Lib.hid (Hno1.out rfl)
      go_wp2
      go_roundw
      case rel => exact ⟨k + 1, by omega, by go_num, by rw [Hn.out.1], by rw [Hn.out.2], HR⟩
      case measure => (simp [intOf] <;> omega)
     ·have Hn := Lib.hid (Hyes1.out rfl)
      go_wp2
      go_roundw
      case rel => exact ⟨k + 1, by omega, by go_num, by rw [Hn.out.1], by rw [Hn.out.2], HR⟩
      case measure => (simp [intOf] <;> omega)
    ·obtain rfl : k = F := by omega
     rw [HfinL.out] at hle ⊢
     rw [HfinF.out]
     obtain ⟨W2, hW2⟩ : ∃ W2 : World, W2 = wr.alloc (Obj.cells #[] 24) := ⟨_, rfl⟩
     have hb2 : Below wr.heap.size wr W2 := by rw [hW2]; exact (Below.refl _ _).alloc (Nat.le_refl _) _
     have HG2 : Hid (Own W2 wr.heap.size (wr.heap.size + 1) 24 1 (some ⟨wr.heap.size, 0, none⟩) 0 0 (dvs [])) := by
      rw [hW2]
      exact .inr ⟨wr.heap.size, #[], rfl, Nat.le_refl _, Nat.lt_succ_self _, heap_alloc_new wr _, Nat.le_refl _, by unfold maxLen; omega, rfl, fun j hj => absurd hj (by simp)⟩
     have HB2 := Lib.hid (HB.out.keep hb2)
     have HD2 : Hid (OwnD W2 W.heap.size w1.heap.size A' c' D) := HDr.out.keepB hb2 hzr
     have hz2 : wr.heap.size < W2.heap.size := by rw [hW2]; simp
     have HN2 : Hid (OwnD W2 w.heap.size W2.heap.size (some ⟨wr.heap.size, 0, none⟩) 0 []) := by rw [hW2]; exact HND.out wr HB.out.below.size
     have HW2 := Lib.hid hW2
     clear hW2 hb2 HDr HD1 HB HG HC HND
     cases hLL : sdwL r m1 E str.toList with
     | nil =>
       have Hf : Hid (fsO (m1 : Int) m1 x1 (m1 : Int) m1 x2 str.toList = none) := by show _ = _; rw [Hy.out, hLL]; rfl
       have Hx := Lib.hid (Hno.out Hf.out)
       rw [hLL] at hle
       obtain ⟨cm, hcm⟩ : ∃ cm, cm = foC E.length ([] : List Nat) := ⟨_, rfl⟩
       rw [← hcm]
       have hq : (!([] : List Nat).isEmpty) = false := rfl
       rw [hq]
       clear hLL hcm hle hq
       go_wp2
       rw [← HW2.out]
       clear HW2
       go_loopw [13, 14] (fun o i wz => o = .slice (some ⟨wr.heap.size, 0, none⟩) 0 0 ∧ i = .int .i64 0 ∧ wz = W2) (fun _ _ _ => 1)
       case atStart => exact ⟨rfl, rfl, rfl⟩
       case round =>
        obtain ⟨rfl, rfl, rfl⟩ := hrel
        by_cases he0 : 0 < E.length
        ·have ie : (0 : Int) < (E.length : Int) := by omega
         go_wp2
         go_ret2
         exact Hx.out _ _ _ _ rfl HN2.out HB2.out.below
        ·have ie : (E.length : Int) ≤ 0 := by omega
         go_wp2
         go_ret2
         exact Hx.out _ _ _ _ rfl HN2.out HB2.out.below
     | cons b t =>
       have Hf : Hid (fsO (m1 : Int) m1 x1 (m1 : Int) m1 x2 str.toList = some b) := by show _ = _; rw [Hy.out, hLL]; rfl
       have Hx := Lib.hid (Hyes.out b Hf.out)
       rw [hLL] at hle Hx
       obtain ⟨cm, hcm⟩ : ∃ cm, cm = foC E.length (b :: t) := ⟨_, rfl⟩
       rw [← hcm] at hle Hx ⊢
       have hq : (!(b :: t).isEmpty) = true := rfl
       rw [hq]
       have Hsub := Lib.hid (foD_sub D cm)
       rw [Hlen.out] at Hsub
       have Hlis := Lib.hid (foD_lists HL.out cm)
       have Hat : Hid (∀ k, k < E.length → ∃ Ad cd v u, D[k]? = some (Ad, cd, [(v : Int), (u : Int)])) := fun k hk => by
        obtain ⟨_, Ad, cd, h⟩ := pairE_at HL.out hk
        exact ⟨Ad, cd, _, _, h⟩
       have Hl0 : Hid ((foD D cm 0).length = 0) := rfl
       clear hLL hcm hq HN2
       go_wp2
       rw [← HW2.out]
       clear HW2
       go_loopw [13, 14] (fun o i wz => ∃ (k g cg : Nat), k ≤ E.length ∧ i = .int .i64 k ∧ o = .slice (some ⟨g, 0, none⟩) (foD D cm k).length cg ∧ w1.heap.size ≤ g ∧ g < wz.heap.size ∧ Hid (Own wz g (g + 1) 24 1 (some ⟨g, 0, none⟩) (foD D cm k).length cg (dvs (foD D cm k))) ∧ Hid (OwnD wz W.heap.size w1.heap.size A' c' D) ∧ Hid (From w wz)) (fun _ i _ => E.length - (intOf i).toNat)
       case atStart => exact ⟨0, wr.heap.size, 0, Nat.zero_le _, rfl, by rw [Hl0.out], hzr, hz2, HG2, HD2, HB2⟩
       case round =>
        clear HG2 HD2 HB2 Hl0
        obtain ⟨j, g, cg, hj, rfl, rfl, hg1, hg2, HG, HD, HB⟩ := hrel
        by_cases hjl : j < E.length
        ·have i1 : (j : Int) < (E.length : Int) := by omega
         obtain ⟨Ad, cd, v, u, hdk⟩ := Hat.out j hjl
         obtain ⟨gD, gd, rfl, rfl, d0, _, _⟩ := HD.out.pair hdk
         have hml := foD_len D cm j
         have Hd := Lib.hid hdk
         have E1 := and_one_i64 (cm : Int) j (by omega) (by omega)
         rw [Int.toNat_natCast] at E1
         clear hdk
         cases hb : cm.testBit j
         ·rw [hb] at E1
          have Hs := Lib.hid (foD_no (D := D) hb)
          clear hb
          go_wp2
          go_roundw
          case rel => exact ⟨j + 1, g, cg, by omega, by go_num, by rw [Hs.out], hg1, hg2, by rw [Hs.out]; exact HG, HD, HB⟩
          case measure => (simp [intOf] <;> omega)
         ·rw [hb] at E1
          have Hs := Lib.hid (foD_yes hb Hd.out)
          obtain ⟨T, hT⟩ : ∃ T, T = foD D cm j := ⟨_, rfl⟩
          rw [← hT] at Hs HG hml ⊢
          clear hb hT
          go_wp2_with (first | (at_builtin; (refine wpList_pushC wr rfl _ _ rfl T g cg HG.out hg2 (some ⟨gd, 0, none⟩, cd, [(v : Int), (u : Int)]) rfl 1 wr.heap.size rfl rfl (by omega) ?_; intro g' cap w3 hO2 hg' hl3 hf)))
          have H1 : Hid (Own w3 g' (g' + 1) 24 1 (some ⟨g', 0, none⟩) (T ++ [((some ⟨gd, 0, none⟩, cd, [(v : Int), (u : Int)]) : Dsc)]).length cap (dvs (T ++ [((some ⟨gd, 0, none⟩, cd, [(v : Int), (u : Int)]) : Dsc)]))) := by show Own _ _ _ _ _ _ _ _ _; rw [List.length_append]; exact hO2
          have H2 := Lib.hid (HD.out.keep hf (.inl hg1))
          have H3 : Hid (From w w3) := ⟨HB.out.below.trans (hf.below (by omega) HB.out.below.size)⟩
          clear hO2 hf
          go_roundw
          case rel => exact ⟨j + 1, g', cap, by omega, by go_num, by rw [Hs.out, List.length_append]; rfl, by omega, hl3, by rw [Hs.out]; exact H1, H2, H3⟩
          case measure => (simp [intOf] <;> omega)
        ·obtain rfl : j = E.length := by omega
         have HE := Lib.hid (HD.out.subL Hsub.out HG.out hzW (by omega : w1.heap.size ≤ wr.heap.size) (by omega : w.heap.size ≤ g) hg2)
         go_wp2
         go_ret2
         exact Hx.out _ _ _ _ (foD D cm E.length) rfl Hlis.out HE.out HB.out.below
  ·have i6 : (6 : Int) < (E.length : Int) := by omega
   have Hx := Lib.hid (Hno.out (Hn0.out h6))
   have HE := Lib.hid (HB1.out.alloc_ (Obj.cells #[] 24))
   have HN1 := Lib.hid (HND.out w1 HB1.out.below.size)
   go_wp2
   go_ret2
   exact Hx.out _ _ _ _ rfl HN1.out HE.out.below
end
end Go.Proofs.YticadlkcjhglnaaGreat
