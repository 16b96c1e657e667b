/-
  Several texts in one.
-/
import Derived.Test.YtdpkbfiggbcclaaGreatQmObfI
import Derived.Test.YtdpkbfiggbcclaaGreatQmObfS
import Derived.Test.YtdpkbfiggbcclaaGreatQmMdlI
import Derived.Test.YtdpkbfiggbcclaaGreatQmCmbS
import Derived.Test.YtdpkbfiggbcclaaGreatQmCloI
import Derived.Test.YtdpkbfiggbcclaaGreatQmThjP
import Derived.Test.YtdpkbfiggbcclaaGreatQmClaim
import Derived.Test.YtdpkbfiggbcclaaGreatQmGC
/-
-/
namespace Go.Proofs.YtdpkbfiggbcclaaGreat
open Go.RowKit
section
variable {r : Nat → Nat} {m n k : Nat} {l : List Nat} {may hol : List Nat → Bool}
theorem sea_len7 (h : seaG m may hol k [] = some l) : l.length = k := by
 have := (seaG_sound k [] l h).2.1;simpa using this
theorem ltO_len {n0 s : Nat} {f : Nat → Option (List Nat)} (hf : ∀ n l, f n = some l → l.length = n) (h : ltO n0 s f m = some l) : l.length ≤ m := by
 unfold ltO at h;obtain ⟨v, hv, hh⟩ := List.exists_of_findSome?_eq_some h;unfold latO at hh;split at hh
 ·rw [hf v l hh];have := List.mem_range.1 hv;omega
 ·cases hh
theorem ho_len (h : holeO r m = some l) : l.length ≤ m := ltO_len (fun _ _ h => sea_len7 h) h
theorem oh_len (h : oddhO r m = some l) : l.length ≤ m := ltO_len (fun _ _ h => sea_len7 h) h
theorem oc_len (h : oddcO r m = some l) : l.length ≤ m := ltO_len (fun _ _ h => sea_len7 h) h
theorem tr_len (h : triO r m = some l) : l.length = 3 := by
 unfold triO at h;obtain ⟨a, _, h⟩ := List.exists_of_findSome?_eq_some h;unfold triA at h;obtain ⟨b, _, h⟩ := List.exists_of_findSome?_eq_some h;unfold triB at h;obtain ⟨c, _, h⟩ := List.exists_of_findSome?_eq_some h;unfold triC at h;split at h
 ·obtain rfl := Option.some.inj h;rfl
 ·cases h
theorem or_len {o p : Option (List Nat)} (h1 : ∀ l, o = some l → l.length ≤ 7) (h2 : ∀ l, p = some l → l.length ≤ 7) : ∀ l, o.or p = some l → l.length ≤ 7 := by
 intro l h;cases o with
 | none => exact h2 l h
 | some a => exact h1 l h
theorem gO_len {sz : Int} {x : Nat → Int} {f : (Nat → Nat) → Nat → Option (List Nat)} (hf : ∀ r m, m ≤ 7 → ∀ l, f r m = some l → l.length ≤ 7) : ((gO sz m x f).getD []).length ≤ 7 := by
 cases ho : okB sz m x
 ·rw [gO_no ho]; simp
 ·rw [gO_yes ho];obtain ⟨_, _, vg, _⟩ := okB_ok ho;cases hh : f (rw_ x) m with
  | none => simp
  | some l => exact hf _ _ vg.n7 l hh
theorem io_len (hm : m ≤ 7) : ∀ l, ioO r m = some l → l.length ≤ 7 := or_len (fun _ h => Nat.le_trans (ho_len h) hm) (fun _ h => by rw [tr_len h]; omega)
theorem obO_len (sz : Int) (m : Nat) (x : Nat → Int) (s : List UInt8) : ((obO sz m x s).getD []).length ≤ 7 := by
 have e4 : ∀ {mm : Nat} {l : List Nat} {mayy holl : List Nat → Bool}, seaG mm mayy holl 4 [] = some l → l.length ≤ 7 := fun h => by rw [sea_len7 h]; omega
 unfold obO;split; · exact gO_len fun r m hm l h => Nat.le_trans (ho_len h) hm
 split; · exact gO_len fun r m hm l h => io_len hm l h
 split; · exact gO_len fun r m hm l h => or_len (fun _ h => e4 h) (io_len hm) l h
 split
 ·refine gO_len fun r m hm l h => ?_
  unfold p4O ptO at h;split at h
  ·exact e4 h
  ·cases h
 split; · exact gO_len fun r m hm l h => or_len (fun _ h => e4 h) (fun _ h => Nat.le_trans (ho_len h) hm) l h
 split; · exact gO_len fun r m hm l h => e4 h
 split; · exact gO_len fun r m hm l h => Nat.le_trans (oc_len h) hm
 split; · exact gO_len fun r m hm l h => or_len (fun _ h => Nat.le_trans (ho_len h) hm) (fun _ h => by rw [sea_len7 h]; omega) l h
 split; · exact gO_len fun r m hm l h => or_len (fun _ h => Nat.le_trans (oh_len h) hm) (fun _ h => Nat.le_trans (oh_len h) hm) l h
 simp
end
section
variable (s1 : Int) (A1 : Option Addr) (m1 c1 : Nat) (x1 : Nat → Int) (t2 : ByteArray) (w : World) (B : Nat)
end
set_option maxHeartbeats 3200000
def ccM (K sz : Int) (m : Nat) (x : Nat → Int) (t : ByteArray) (T U : List Nat) : Clm := { zeroK with K := K, s := sz, n0 := m, x0 := x, t := t, n1 := T.length, x1 := fun j => ((T.getD j 0 : Nat) : Int), n2 := U.length, x2 := fun j => ((U.getD j 0 : Nat) : Int) }
noncomputable def cocK (sz : Int) (m : Nat) (x : Nat → Int) (t : ByteArray) : Clm :=
 match mdG sz m x t.toList with
 | some p => ccM 1 sz m x t p.1 p.2
 | none => match obO sz m x t.toList with
   | some l => ccM 2 sz m x t l []
   | none => zeroK
noncomputable def ccB (sz : Int) (m : Nat) (x : Nat → Int) (t : ByteArray) : Bool := (mdG sz m x t.toList).isSome || (obO sz m x t.toList).isSome
section
variable {sz : Int} {m : Nat} {x : Nat → Int} {t : ByteArray}
theorem obO_none {s : List UInt8} (h : okB sz m x = false) : obO sz m x s = none := by
 unfold obO;simp only [gO_no h, ite_self]
theorem cc_one {p : List Nat × List Nat} (h : mdG sz m x t.toList = some p) : ccB sz m x t = true ∧ cocK sz m x t = ccM 1 sz m x t p.1 p.2 := by
 unfold ccB cocK;rw [h];exact ⟨rfl, rfl⟩
theorem cc_two {l : List Nat} (h : mdG sz m x t.toList = none) (h2 : obO sz m x t.toList = some l) : ccB sz m x t = true ∧ cocK sz m x t = ccM 2 sz m x t l [] := by
 unfold ccB cocK;rw [h, h2];exact ⟨rfl, rfl⟩
theorem cc_no (h : mdG sz m x t.toList = none) (h2 : obO sz m x t.toList = none) : ccB sz m x t = false ∧ cocK sz m x t = zeroK := by
 unfold ccB cocK;rw [h, h2];exact ⟨rfl, rfl⟩
theorem ccM_small {K : Int} {T U : List Nat} (hm : m ≤ 1048576) (ht : t.size ≤ 1048576) (hT : T.length ≤ 127) (hU : U.length ≤ 127) : SmK (ccM K sz m x t T U) :=
 ⟨hm, ht, Nat.le_trans hT (by omega), Nat.le_trans hU (by omega), Nat.zero_le _, Nat.zero_le _⟩
theorem cocK_small (hm : m ≤ 1048576) (ht : t.size ≤ 1048576) : SmK (cocK sz m x t) := by
 cases h : mdG sz m x t.toList with
 | some p =>
   rw [(cc_one h).2];exact ccM_small hm ht (mdG_short h).1 (mdG_short h).2
 | none =>
   cases h2 : obO sz m x t.toList with
   | some l =>
     rw [(cc_two h h2).2];have := obO_len sz m x t.toList;rw [h2] at this;exact ccM_small hm ht (Nat.le_trans this (by omega)) (Nat.zero_le _)
   | none =>
     rw [(cc_no h h2).2];exact ⟨by decide, by decide, by decide, by decide, by decide, by decide⟩
end
def ccA (K sz : Int) (A0 : Option Addr) (m c0 : Nat) (x : Nat → Int) (t : ByteArray) (A1 : Option Addr) (T : List Nat) (c1 : Nat) (A2 : Option Addr) (U : List Nat) (c2 : Nat) : Clm := ⟨K, sz, A0, m, c0, x, t, A1, T.length, c1, fun j => ((T.getD j 0 : Nat) : Int), A2, U.length, c2, fun j => ((U.getD j 0 : Nat) : Int), none, 0, []⟩
theorem coc_end {K sz : Int} {A0 A1 A2 : Option Addr} {m c0 c1 c2 q z1 z2 : Nat} {x : Nat → Int} {t : ByteArray} {T U : List Nat} {w w2 : World} {k0 : Clm} (hk : KB w2 q k0) (hB : From w w2) (hq : w.heap.size ≤ q)
 (h1 : Own w2 (q + 1) z1 3 1 A1 T.length c1 (ni T)) (h2 : Own w2 (q + 1) z1 3 1 A2 U.length c2 (ni U)) (hne : ∀ a, A1 = some a → A2 ≠ some a) (hz1 : z1 ≤ z2) (h0 : Own w2 z1 z2 3 1 A0 m c0 (fun j => .int .i64 (x j))) (hz2 : z2 ≤ w2.heap.size) (hqz : q + 1 ≤ z1) :
 KB (st7 w2 q (.int .i64 K) (.int .i64 sz) (.slice A0 m c0) (.string t) (.slice A1 T.length c1) (.slice A2 U.length c2) (.slice none 0 0)) q (ccA K sz A0 m c0 x t A1 T c1 A2 U c2) ∧ SameK (ccA K sz A0 m c0 x t A1 T c1 A2 U c2) (ccM K sz m x t T U) ∧ ApK (ccA K sz A0 m c0 x t A1 T c1 A2 U c2) ∧
 OwnK (st7 w2 q (.int .i64 K) (.int .i64 sz) (.slice A0 m c0) (.string t) (.slice A1 T.length c1) (.slice A2 U.length c2) (.slice none 0 0)) w.heap.size (st7 w2 q (.int .i64 K) (.int .i64 sz) (.slice A0 m c0) (.string t) (.slice A1 T.length c1) (.slice A2 U.length c2) (.slice none 0 0)).heap.size (ccA K sz A0 m c0 x t A1 T c1 A2 U c2) ∧
 Below w.heap.size w (st7 w2 q (.int .i64 K) (.int .i64 sz) (.slice A0 m c0) (.string t) (.slice A1 T.length c1) (.slice A2 U.length c2) (.slice none 0 0)) := by
 have hF := fr_st7 w2 q (.int .i64 K) (.int .i64 sz) (.slice A0 m c0) (.string t) (.slice A1 T.length c1) (.slice A2 U.length c2) (.slice none 0 0);have hzY := hF.size;have apart : ∀ {A : Option Addr} {n c : Nat} {y : Nat → Value}, Own w2 (q + 1) z1 3 1 A n c y → ∀ a, A0 = some a → A ≠ some a := by
  intro A n c y hA a e e2;rcases h0.at_block with h | ⟨g, h, hg, _⟩
  ·rw [h] at e; cases e
  ·rcases hA.at_block with h' | ⟨g', h', _, hg'⟩
   ·rw [h'] at e2; cases e2
   ·rw [h] at e;rw [h', ← e] at e2;simp only [Option.some.injEq, Addr.mk.injEq, and_true] at e2;omega
 refine ⟨hk.st7 (ccA K sz A0 m c0 x t A1 T c1 A2 U c2), ⟨rfl, rfl, rfl, rfl, rfl, rfl, rfl, rfl, rfl, rfl⟩, ⟨apart h1, apart h2, hne, (fun d hd => by cases hd), (fun d hd => by cases hd), (fun d hd => by cases hd)⟩, ⟨?_, ?_, ?_, ?_⟩, hB.below.trans (hF.below hq hB.below.size)⟩
 ·exact (h0.keep hF (.inr hqz)).mono (by omega) (by omega)
 ·exact (h1.keep hF (.inr nr_)).mono (by omega) (by omega)
 ·exact (h2.keep hF (.inr nr_)).mono (by omega) (by omega)
 ·exact ⟨Own.nil _ _ _ _ _ _, (fun d hd => by cases hd), List.Pairwise.nil⟩
set_option maxRecDepth 100000 in
theorem ClaimOfClass_i (sz : Int) (A : Option Addr) (m c : Nat) (x : Nat → Int) (t : ByteArray) (w : World) (B : Nat) (h : Rd w B A m c x) (hB : B ≤ w.heap.size) (hm : m ≤ 1048576) (_ : t.size ≤ 1048576) :
 Calls Tryz.prog 40 #[.agg #[.int .i64 sz, .slice A m c], .string t] w fun e w' => ∃ k : Clm, e = .returned (.tuple #[.agg #[.int .i64 k.K, .int .i64 k.s, .slice k.A0 k.n0 k.c0, .string k.t, .slice k.A1 k.n1 k.c1, .slice k.A2 k.n2 k.c2, .slice k.A3 k.D.length k.c3], .bool (ccB sz m x t)]) ∧ SameK k (cocK sz m x t) ∧ ApK k ∧ OwnK w' w.heap.size w'.heap.size k ∧ Below w.heap.size w w' := by
 obtain ⟨W, hW⟩ : ∃ W, W = ((w.alloc (Obj.cells #[.int .i64 sz, .slice A m c] 28)).alloc (Obj.cells #[.int .i64 0, .int .i64 0, .slice none 0 0, .string ⟨#[]⟩, .slice none 0 0, .slice none 0 0, .slice none 0 0] 54)) := ⟨_, rfl⟩;have HB : Hid (From w W) := by rw [hW]; exact (From.alloc _ _).alloc_ _
 have HK : Hid (GA W A m c x) := ⟨h.keep (HB.below.mono hB) (Nat.le_trans hB HB.below.size)⟩;have HC : Hid (GC W w.heap.size sz A m c) := by rw [hW]; exact (GC.new _ _ _ _ _).keep (br_.alloc nr_ _)
 have HQ : Hid (KB W (w.heap.size + 1) zeroK) := by
  rw [hW];have := KB.new (w.alloc (Obj.cells #[.int .i64 sz, .slice A m c] 28));have e : (w.alloc (Obj.cells #[.int .i64 sz, .slice A m c] 28)).heap.size = w.heap.size + 1 := by simp
  rw [e] at this;exact this
 have HW := hh_ hW;clear hW h;obtain ⟨o, ho⟩ : ∃ o, o = mdG sz m x t.toList := ⟨_, rfl⟩;have KM : Hid (∀ z : World, GA z A m c x → Calls Tryz.prog 140 #[.agg #[.int .i64 sz, .slice A m c], .string t] z (mrQ z o)) := fun z hz => by rw [ho]; exact modelFor_i sz A m c x t z hz hm
 have Ho := hh_ ho.symm;obtain ⟨b, hb⟩ : ∃ b, b = obO sz m x t.toList := ⟨_, rfl⟩;have KO : Hid (∀ z : World, GA z A m c x → Calls Tryz.prog 30 #[.agg #[.int .i64 sz, .slice A m c], .string t] z (lsQ z b)) := fun z hz => by rw [hb]; exact ObstacleFor_i sz A m c x t z hz hm
 have Hb := hh_ hb.symm;clear ho hb;cases o with
 | some p =>
   obtain ⟨T, U⟩ := p;have Hc := hh_ (cc_one Ho.out);have HLW : Hid (w.heap.size + 1 + 1 ≤ W.heap.size) := HQ.lt;clear KO;go_enter Tryz.func40, Tryz.ntmps40;obtain ⟨e0, e1⟩ := gc_ HC;go_wp2_with fail
   rw [← HW.out];refine (KM.out _ HK).mono ?_;rintro e w1 ⟨A1, n1, c1, A2, n2, c2, rfl, hx, hb1⟩;clear HW;clear e0 e1;replace HB := hh_ (HB.keep hb1);replace HK := hh_ (HK.keep hb1);replace HC := hh_ (HC.keep hb1);replace HQ := hh_ (HQ.keep hb1);clear hb1;obtain ⟨e0, e1⟩ := gc_ HC;obtain ⟨rfl, rfl, hT⟩ := hx _ rfl;have HX : Hid (TwoN w1 (w.heap.size + 1 + 1) A1 c1 T A2 c2 U) := hT.mono HLW.out;clear hx hT KM;have HL1 : Hid (w.heap.size + 1 + 1 ≤ w1.heap.size) := HQ.lt;go_wp2_with fail
   refine (copyGraph_any sz A m c x w1 w1.heap.size HK.rd nr_ hm).mono ?_;rintro e wf ⟨A0, c0, rfl, hO2, hb2⟩;have H2 : Hid (Own wf w1.heap.size wf.heap.size 3 1 A0 m c0 (fun j => .int .i64 (x j))) := hO2.mono (by omega) nr_;have HZ2 := hh_ hb2.size;have HX2 : Hid (TwoN wf (w.heap.size + 1 + 1) A1 c1 T A2 c2 U ∧ Own wf (w.heap.size + 1 + 1) w1.heap.size 3 1 A1 (T).length c1 (ni T) ∧ Own wf (w.heap.size + 1 + 1) w1.heap.size 3 1 A2 (U).length c2 (ni U)) := ⟨HX.keep hb2, HX.o1.keepB hb2 nr_, HX.o2.keepB hb2 nr_⟩;clear e0 e1;replace HB := hh_ (HB.keep hb2);replace HK := hh_ (HK.keep hb2);replace HC := hh_ (HC.keep hb2);replace HQ := hh_ (HQ.keep hb2);clear hb2 hO2 HX;obtain ⟨e0, e1⟩ := gc_ HC;clear e0 e1;have q0 := HQ.c0;have g0 := HQ.f0;have q1 := HQ.c1;have g1 := HQ.f1;have q2 := HQ.c2;have g2 := HQ.f2;have q3 := HQ.c3;have g3 := HQ.f3;have q4 := HQ.c4;have g4 := HQ.f4;have q5 := HQ.c5
   have g5 := HQ.f5;have q6 := HQ.c6;have g6 := HQ.f6;go_wp2;clear q0 q1 q2 q3 q4 q5 q6 g0 g1 g2 g3 g4 g5 g6;obtain ⟨p1, p2, p3, p4, p5⟩ := coc_end (K := 1) (sz := sz) (t := t) (x := x) HQ HB (Nat.le_succ _) HX2.out.2.1 HX2.out.2.2 HX2.out.1.ne HZ2.out H2.out nr_ HL1.out;obtain ⟨Y, hY⟩ : ∃ Y, Y = st7 wf (w.heap.size + 1) (.int .i64 1) (.int .i64 sz) (.slice A0 m c0) (.string t) (.slice A1 (T).length c1) (.slice A2 (U : List Nat).length c2) (.slice none 0 0) := ⟨_, rfl⟩;rw [← hY] at p1 p4 p5;have P := hh_ (And.intro p2 (And.intro p3 (And.intro p4 p5)));have r0 : Y.cell? ⟨w.heap.size + 1, 0, none⟩ = some (.int .i64 1) := p1.c0;have r1 : Y.cell? ⟨w.heap.size + 1, 1, none⟩ = some (.int .i64 sz) := p1.c1;have r2 : Y.cell? ⟨w.heap.size + 1, 2, none⟩ = some (.slice A0 m c0) := p1.c2;have r3 : Y.cell? ⟨w.heap.size + 1, 3, none⟩ = some (.string t) := p1.c3;have r4 : Y.cell? ⟨w.heap.size + 1, 4, none⟩ = some (.slice A1 T.length c1) := p1.c4
   have r5 : Y.cell? ⟨w.heap.size + 1, 5, none⟩ = some (.slice A2 U.length c2) := p1.c5;have r6 : Y.cell? ⟨w.heap.size + 1, 6, none⟩ = some (.slice none 0 0) := p1.c6;unfold st7 at hY;rw [← hY];clear p1 p2 p3 p4 p5 hY;exact bodyPost_ret (v := .tuple #[.agg #[.int .i64 1, .int .i64 sz, .slice A0 m c0, .string t, .slice A1 T.length c1, .slice A2 U.length c2, .slice none 0 0], .bool true]) (by simp [results, Tryz.results40, go_sem, r0, r1, r2, r3, r4, r5, r6]) rfl ⟨ccA 1 sz A0 m c0 x t A1 T c1 A2 U c2, by rw [Hc.out.1]; rfl, by rw [Hc.out.2]; exact P.out.1, P.out.2.1, P.out.2.2.1, P.out.2.2.2⟩
 | none =>
   cases b with
   | some l =>
     have Hc := hh_ (cc_two Ho.out Hb.out);have HLW : Hid (w.heap.size + 1 + 1 ≤ W.heap.size) := HQ.lt;go_enter Tryz.func40, Tryz.ntmps40;obtain ⟨e0, e1⟩ := gc_ HC;go_wp2_with fail
     rw [← HW.out];refine (KM.out _ HK).mono ?_;rintro e w2 ⟨A1, n1, c1, A2, n2, c2, rfl, _, hb2⟩;clear HW;clear e0 e1;replace HB := hh_ (HB.keep hb2);replace HK := hh_ (HK.keep hb2);replace HC := hh_ (HC.keep hb2);replace HQ := hh_ (HQ.keep hb2);clear hb2;obtain ⟨e0, e1⟩ := gc_ HC;have HLm : Hid (w.heap.size + 1 + 1 ≤ w2.heap.size) := HQ.lt;clear KM;go_wp2_with fail
     refine (KO.out _ HK).mono ?_;rintro e w3 ⟨A3, c3, rfl, hL, hb3⟩;clear e0 e1;replace HB := hh_ (HB.keep hb3);replace HK := hh_ (HK.keep hb3);replace HC := hh_ (HC.keep hb3);replace HQ := hh_ (HQ.keep hb3);clear hb3;obtain ⟨e0, e1⟩ := gc_ HC;have HX : Hid (TwoN w3 (w.heap.size + 1 + 1) A3 c3 l none 0 []) := ⟨hL.own.mono HLm.out nr_, Own.nil _ _ _ _ _ _, fun a _ e => (by cases e)⟩;clear hL KO;have HL1 : Hid (w.heap.size + 1 + 1 ≤ w3.heap.size) := HQ.lt;go_wp2_with fail
     refine (copyGraph_any sz A m c x w3 w3.heap.size HK.rd nr_ hm).mono ?_;rintro e wf ⟨A0, c0, rfl, hO2, hb2⟩;have H2 : Hid (Own wf w3.heap.size wf.heap.size 3 1 A0 m c0 (fun j => .int .i64 (x j))) := hO2.mono (by omega) nr_;have HZ2 := hh_ hb2.size;have HX2 : Hid (TwoN wf (w.heap.size + 1 + 1) A3 c3 l none 0 [] ∧ Own wf (w.heap.size + 1 + 1) w3.heap.size 3 1 A3 (l).length c3 (ni l) ∧ Own wf (w.heap.size + 1 + 1) w3.heap.size 3 1 none ([]).length 0 (ni [])) := ⟨HX.keep hb2, HX.o1.keepB hb2 nr_, HX.o2.keepB hb2 nr_⟩;clear e0 e1;replace HB := hh_ (HB.keep hb2);replace HK := hh_ (HK.keep hb2);replace HC := hh_ (HC.keep hb2);replace HQ := hh_ (HQ.keep hb2);clear hb2 hO2 HX;obtain ⟨e0, e1⟩ := gc_ HC;clear e0 e1;have q0 := HQ.c0;have g0 := HQ.f0;have q1 := HQ.c1;have g1 := HQ.f1;have q2 := HQ.c2;have g2 := HQ.f2;have q3 := HQ.c3;have g3 := HQ.f3;have q4 := HQ.c4;have g4 := HQ.f4
     have q5 := HQ.c5;have g5 := HQ.f5;have q6 := HQ.c6;have g6 := HQ.f6;go_wp2;clear q0 q1 q2 q3 q4 q5 q6 g0 g1 g2 g3 g4 g5 g6;obtain ⟨p1, p2, p3, p4, p5⟩ := coc_end (K := 2) (sz := sz) (t := t) (x := x) HQ HB (Nat.le_succ _) HX2.out.2.1 HX2.out.2.2 HX2.out.1.ne HZ2.out H2.out nr_ HL1.out;obtain ⟨Y, hY⟩ : ∃ Y, Y = st7 wf (w.heap.size + 1) (.int .i64 2) (.int .i64 sz) (.slice A0 m c0) (.string t) (.slice A3 (l).length c3) (.slice none ([] : List Nat).length 0) (.slice none 0 0) := ⟨_, rfl⟩;rw [← hY] at p1 p4 p5;have P := hh_ (And.intro p2 (And.intro p3 (And.intro p4 p5)));have r0 : Y.cell? ⟨w.heap.size + 1, 0, none⟩ = some (.int .i64 2) := p1.c0;have r1 : Y.cell? ⟨w.heap.size + 1, 1, none⟩ = some (.int .i64 sz) := p1.c1;have r2 : Y.cell? ⟨w.heap.size + 1, 2, none⟩ = some (.slice A0 m c0) := p1.c2;have r3 : Y.cell? ⟨w.heap.size + 1, 3, none⟩ = some (.string t) := p1.c3
     have r4 : Y.cell? ⟨w.heap.size + 1, 4, none⟩ = some (.slice A3 l.length c3) := p1.c4;have r5 : Y.cell? ⟨w.heap.size + 1, 5, none⟩ = some (.slice none 0 0) := p1.c5;have r6 : Y.cell? ⟨w.heap.size + 1, 6, none⟩ = some (.slice none 0 0) := p1.c6;unfold st7 at hY;simp only [List.length_nil] at hY;rw [← hY];clear p1 p2 p3 p4 p5 hY;exact bodyPost_ret (v := .tuple #[.agg #[.int .i64 2, .int .i64 sz, .slice A0 m c0, .string t, .slice A3 l.length c3, .slice none 0 0, .slice none 0 0], .bool true]) (by simp [results, Tryz.results40, go_sem, r0, r1, r2, r3, r4, r5, r6]) rfl ⟨ccA 2 sz A0 m c0 x t A3 l c3 none [] 0, by rw [Hc.out.1]; rfl, by rw [Hc.out.2]; exact P.out.1, P.out.2.1, P.out.2.2.1, P.out.2.2.2⟩
   | none =>
     have Hc := hh_ (cc_no Ho.out Hb.out);have HLW : Hid (w.heap.size + 1 + 1 ≤ W.heap.size) := HQ.lt;go_enter Tryz.func40, Tryz.ntmps40;obtain ⟨e0, e1⟩ := gc_ HC;go_wp2_with fail
     rw [← HW.out];refine (KM.out _ HK).mono ?_;rintro e w4 ⟨A1, n1, c1, A2, n2, c2, rfl, _, hb4⟩;clear HW;clear e0 e1;replace HB := hh_ (HB.keep hb4);replace HK := hh_ (HK.keep hb4);replace HC := hh_ (HC.keep hb4);replace HQ := hh_ (HQ.keep hb4);clear hb4;obtain ⟨e0, e1⟩ := gc_ HC;have HLm : Hid (w.heap.size + 1 + 1 ≤ w4.heap.size) := HQ.lt;clear KM;go_wp2_with fail
     refine (KO.out _ HK).mono ?_;rintro e w5 ⟨A3, c3, rfl, hL, hb5⟩;clear e0 e1;replace HB := hh_ (HB.keep hb5);replace HK := hh_ (HK.keep hb5);replace HC := hh_ (HC.keep hb5);replace HQ := hh_ (HQ.keep hb5);clear hb5;obtain ⟨e0, e1⟩ := gc_ HC;clear KO hL;have q0 := HQ.c0;have g0 := HQ.f0;have q1 := HQ.c1;have g1 := HQ.f1;have q2 := HQ.c2;have g2 := HQ.f2;have q3 := HQ.c3;have g3 := HQ.f3;have q4 := HQ.c4;have g4 := HQ.f4;have q5 := HQ.c5;have g5 := HQ.f5;have q6 := HQ.c6;have g6 := HQ.f6;go_wp2;have HB2 := HB.set7 (q := w.heap.size + 1) (by omega) zeroK;exact bodyPost_ret (v := .tuple #[.agg #[.int .i64 0, .int .i64 0, .slice none 0 0, .string ⟨#[]⟩, .slice none 0 0, .slice none 0 0, .slice none 0 0], .bool false]) (by simp [results, Tryz.results40, go_sem, *]) rfl ⟨zeroK, by rw [Hc.out.1]; rfl, by rw [Hc.out.2]; exact ⟨rfl, rfl, rfl, rfl, rfl, rfl, rfl, rfl, rfl, rfl⟩, ApK.zero, OwnK.zero _ _ _, HB2.below⟩
set_option maxHeartbeats 3200000
set_option maxRecDepth 100000 in
theorem MaximalCliques_sv {A : Option Addr} {m c : Nat} {r : Nat → Nat} {w : World} (h : GV w A m c r) :
 Calls Tryz.prog 365 #[.agg #[.int .i64 m, .slice A m c]] w fun e w' => ∃ A' c', e = .returned (.slice A' (mqL r m).length c') ∧ ON w.heap.size w' A' c' (mqL r m) ∧ Below w.heap.size w w' := by
 have hn7 := h.vg.n7;have h128 := two_pow_le hn7;have hpos := Nat.two_pow_pos m;have hpc := pow_cast m;have p1 := pow_shl m hn7;have HV := hh_ h.vg;have Hfin : Hid (mqK r m (2 ^ m) = mqL r m) := rfl;obtain ⟨b0, o0, rfl⟩ := h.addr;obtain ⟨W0, hW0⟩ : ∃ W0, W0 = (w.alloc (Obj.cells #[.int .i64 m, .slice (some ⟨b0, o0, none⟩) m c] 28)) := ⟨_, rfl⟩;have HB0 : Hid (From w W0) := by rw [hW0]; exact From.alloc _ _
 have HG0 : Hid (GBox W0 w.heap.size (some ⟨b0, o0, none⟩) m c r) := by rw [hW0]; exact h.box
 obtain ⟨W, hW⟩ : ∃ W, W = W0.alloc (Obj.cells #[] 3) := ⟨_, rfl⟩;have HRa : Hid (From W0 W) := by rw [hW]; exact From.alloc _ _
 have HO : Hid (ON W0.heap.size W (some ⟨W0.heap.size, 0, none⟩) 0 []) := by rw [hW]; exact ON.nil W0
 have HO1 : Hid (ON W0.heap.size W (some ⟨W0.heap.size, 0, none⟩) 0 (mqK r m 1)) := by rw [mqK_one]; exact HO.out
 have Hl1 : Hid ((mqK r m 1).length = 0) := by show _ = _; rw [mqK_one]; rfl
 have HZ0 : Hid (w.heap.size + 1 = W0.heap.size) := by rw [hW0]; simp [Hid]
 have HW := hh_ hW;have HW0 := hh_ hW0;clear hW hW0 h HO;go_enter Tryz.func365, Tryz.ntmps365;go_wp2;rw [← HW0.out, ← HW.out];clear HW HW0;go_loopw [3, 4] (fun l i wr => ∃ (k : Nat) (A' : Option Addr) (c' : Nat), 1 ≤ k ∧ k ≤ 2 ^ m ∧ i = .int .i64 k ∧ l = .slice A' (mqK r m k).length c' ∧ Hid (ON W0.heap.size wr A' c' (mqK r m k)) ∧ Hid (From W0 wr)) (fun _ i _ => 2 ^ m - (intOf i).toNat);case atStart => exact ⟨1, _, 0, nr_, hpos, rfl, by rw [Hl1.out, HZ0.out], HO1, HRa⟩
 case round =>
  clear HO1 Hl1 HRa;obtain ⟨k, A', c', hk1, hk, rfl, rfl, HO, HR⟩ := hrel;have HG := hh_ (HG0.keep HR.below);have hml := mqK_len r m k;obtain ⟨e0, e1⟩ := gx_ HG;go_wp2_with fail
  refine (IsGraph_sv HG.gv).mono ?_;rintro e w1 ⟨rfl, hb1⟩;clear e0 e1;replace HR := hh_ (HR.keep hb1);replace HO := hh_ (HO.keep hb1);replace HG := hh_ (HG.keep hb1);clear hb1;obtain ⟨e0, e1⟩ := gx_ HG;by_cases hlt : k < 2 ^ m
  ·have i1 : (k : Int) < 2 ^ m := by omega
   have Hfx : Hid (mxK r k m = mxB r m k) := rfl;go_wp2_with fail
   refine (IsClique_sv HG.gv hlt).mono ?_;rintro e w2 ⟨rfl, hb2⟩;clear e0 e1;replace HR := hh_ (HR.keep hb2);replace HO := hh_ (HO.keep hb2);replace HG := hh_ (HG.keep hb2);clear hb2;obtain ⟨e0, e1⟩ := gx_ HG;cases hcl : cliq r k
   ·have Hn : Hid (mqK r m (k + 1) = mqK r m k) := mqK_no (by rw [← Hfx.out]; exact mxK_no (j := 0) hcl (Nat.zero_le _));clear hcl;go_wp2;go_roundw;case rel => exact ⟨k + 1, _, _, by omega, by omega, by go_num, by rw [Hn.out], by rw [Hn.out]; exact HO, HR⟩
    case measure => simp [intOf]; omega
   have Hz : Hid (mxK r k 0 = true) := hcl;clear hcl;go_wp2;go_loopw [5, 6] (fun b i wz => ∃ v : Nat, v ≤ m ∧ i = .int .i64 v ∧ b = .bool (mxK r k v) ∧ wz = w2) (fun _ i _ => m - (intOf i).toNat);case atStart => exact ⟨0, Nat.zero_le _, rfl, by rw [Hz.out], rfl⟩
   case round =>
    obtain ⟨v, hv, rfl, rfl, rfl⟩ := hrel;by_cases hvm : v < m
    ·have i2 : (v : Int) < m := by omega
     have q0 := HG.gv.row hvm;have hr := HV.lt128 hvm;obtain ⟨x, hx⟩ : ∃ x, x = r v := ⟨_, rfl⟩;rw [← hx] at q0 hr;have Hst : Hid (mxK r k (v + 1) = (mxK r k v && (k.testBit v || !(x &&& k == k)))) := by rw [hx]; exact rfl
     clear hx;have E1 := and_one_i64 (k : Int) v (by omega) (by omega);rw [Int.toNat_natCast] at E1;cases hf : mxK r k v
     ·have Hs : Hid (mxK r k (v + 1) = false) := by show _ = _; rw [Hst.out, hf]; rfl
      clear hf;go_wp2;go_roundw;case rel => exact ⟨v + 1, by omega, by go_num, by rw [Hs.out], by first | rfl | trivial⟩
      case measure => (simp [intOf] <;> omega)
     ·cases hb : k.testBit v
      ·rw [hb] at E1;have E2 := i64_and_nat x k (by omega) (by omega);by_cases hx : x &&& k = k
       ·rw [hx] at E2;have Hs : Hid (mxK r k (v + 1) = false) := by show _ = _; rw [Hst.out, hf, hb, hx]; simp
        clear hf hb hx;go_wp2;go_roundw;case rel => exact ⟨v + 1, by omega, by go_num, by rw [Hs.out], by first | rfl | trivial⟩
        case measure => (simp [intOf] <;> omega)
       ·have Hs : Hid (mxK r k (v + 1) = true) := by show _ = _; rw [Hst.out, hf, hb]; simp [hx]
        obtain ⟨y, hy⟩ : ∃ y, y = x &&& k := ⟨_, rfl⟩;rw [← hy] at E2 hx;have hyn : ((y : Int) != (k : Int)) = true := by simp; omega
        clear hf hb hx hy;go_wp2;go_roundw;case rel => exact ⟨v + 1, by omega, by go_num, by rw [Hs.out], by first | rfl | trivial⟩
        case measure => (simp [intOf] <;> omega)
      ·rw [hb] at E1;have Hs : Hid (mxK r k (v + 1) = true) := by show _ = _; rw [Hst.out, hf, hb]; rfl
       clear hf hb;go_wp2;go_roundw;case rel => exact ⟨v + 1, by omega, by go_num, by rw [Hs.out], by first | rfl | trivial⟩
       case measure => (simp [intOf] <;> omega)
    ·obtain rfl : m = v := by omega
     rw [Hfx.out];cases hmx : mxB r m k
     ·have Hn : Hid (mqK r m (k + 1) = mqK r m k) := mqK_no hmx;clear hmx;go_wp2;go_roundw;case rel => exact ⟨k + 1, _, _, by omega, by omega, by go_num, by rw [Hn.out], by rw [Hn.out]; exact HO, HR⟩
      case measure => simp [intOf]; omega
     ·have Hn : Hid (mqK r m (k + 1) = mqK r m k ++ [k]) := mqK_yes hk1 hmx;clear hmx;obtain ⟨T, hT⟩ : ∃ T, T = mqK r m k := ⟨_, rfl⟩;rw [← hT] at Hn HO hml ⊢;clear hT;have hzr := HR.below.size;go_wp2_with (first | (at_builtin; (refine wpList_pushN wr rfl _ _ rfl W0.heap.size wr.heap.size A' c' T HO.own hzr k rfl 1 wr.heap.size rfl rfl (by omega) ?_; intro g3 c3 w3 hO3 hb3)))
      have HOn : Hid (ON W0.heap.size w3 (some ⟨g3, 0, none⟩) c3 (T ++ [k])) := ⟨by rw [List.length_append]; exact hO3⟩;have HRn : Hid (From W0 w3) := ⟨HR.below.trans hb3⟩;clear hO3 hb3;go_roundw;case rel => exact ⟨k + 1, _, _, by omega, by omega, by go_num, by rw [Hn.out, List.length_append]; rfl, by rw [Hn.out]; exact HOn, HRn⟩
      case measure => simp [intOf]; omega
  ·have hkm : k = 2 ^ m := by omega
   have i1 : (2 : Int) ^ m ≤ (k : Int) := by omega
   have Hk : Hid (mqK r m k = mqL r m) := by rw [hkm]; exact Hfin.out
   have HBw : Hid (From w w1) := HB0.up HR.out;have hz0 := HB0.below.size;rw [Hk.out] at HO ⊢;clear hkm hml;go_wp2;go_ret;exact ⟨_, _, rfl, HO.mono hz0, HBw.below⟩
set_option maxRecDepth 100000 in
theorem l10Con_v {Al : Option Addr} {cl : Nat} {l : List Nat} {w : World} (hl : LN w Al cl l) (hlt : ∀ s ∈ l, s < 128) (hlen : l.length ≤ 1048576) :
 Calls Tryz.prog 393 #[.slice Al l.length cl] w fun e w' => e = .returned (.bool (coB l)) ∧ w = w' := by
 have HL := hh_ hl;have Hlt := hh_ hlt;clear hl hlt;go_enter Tryz.func393, Tryz.ntmps393;go_wp2;go_loopw [3] (fun i wr => ∃ v : Nat, v ≤ 7 ∧ i = .int .i64 v ∧ Hid (∀ u, u < v → bgK l u l.length ≤ 1) ∧ wr = w) (fun i _ => 7 - (intOf i).toNat);case atStart => exact ⟨0, Nat.zero_le _, rfl, (fun u hu => absurd hu (by omega)), rfl⟩
 case round =>
  obtain ⟨v, hv, rfl, hall, rfl⟩ := hrel;obtain ⟨wo, rfl⟩ : ∃ wo, wo = wr := ⟨_, rfl⟩;by_cases hv7 : v < 7
  ·have i1 : (v : Int) < 7 := by omega
   go_wp2;go_loopw [4, 5] (fun b i wr => ∃ k : Nat, k ≤ l.length ∧ i = .int .i64 k ∧ b = .int .i64 (bgK l v k : Nat) ∧ wr = wo) (fun _ i _ => l.length - (intOf i).toNat);case atStart => exact ⟨0, Nat.zero_le _, rfl, rfl, rfl⟩
   case round =>
    obtain ⟨k, hk, rfl, rfl, rfl⟩ := hrel;have hbl := bgK_le l v k;have Hb1 : Hid (((l.getD k 0).testBit v = false ∨ (laK l k).testBit v = true) → bgK l v (k + 1) = bgK l v k) := fun h => bgK_no h
    have Hb2 : Hid ((l.getD k 0).testBit v = true → (laK l k).testBit v = false → bgK l v (k + 1) = bgK l v k + 1) := fun h1 h2 => bgK_yes h1 h2
    by_cases hkl : k < l.length
    ·have i2 : (k : Int) < l.length := by omega
     obtain ⟨b0, o0, rfl⟩ := HL.addr (by omega);have p0 := HL.at hkl;have e : l[k] = l.getD k 0 := by simp [List.getD, hkl]
     rw [e] at p0;have hx : l.getD k 0 < 128 := by rw [← e]; exact Hlt.out _ (List.getElem_mem hkl)
     obtain ⟨x, hx'⟩ : ∃ x, x = l.getD k 0 := ⟨_, rfl⟩;rw [← hx'] at p0 hx Hb1 Hb2;have E1 := and_one_i64 (x : Int) v (by omega) (by omega);rw [Int.toNat_natCast] at E1;have s1 : IntKind.i64.wrap (((bgK l v k : Nat) : Int) + 1) = ((bgK l v k + 1 : Nat) : Int) := by rw [Go.IntWalk.i64_in _ (by omega)]; simp
     clear hx' e;cases hb : x.testBit v
     ·rw [hb] at E1;have Hs : Hid (bgK l v (k + 1) = bgK l v k) := Hb1.out (.inl hb);clear hb;go_wp2;go_roundw;case rel => exact ⟨k + 1, by omega, by go_num, by rw [Hs.out], by first | rfl | trivial⟩
      case measure => (simp [intOf] <;> omega)
     ·rw [hb] at E1;by_cases hk0 : k = 0
      ·subst hk0;have Hs : Hid (bgK l v (0 + 1) = bgK l v 0 + 1) := Hb2.out hb (by simp [laK]);have p4 := p0;rw [Nat.add_zero] at p4;clear hb;go_wp2;go_roundw;case rel => exact ⟨1, by omega, by go_num, by show _ = Value.int .i64 ((bgK l v (0 + 1) : Nat) : Int); rw [Hs.out]; first | rfl | exact congrArg (Value.int .i64) s1, by first | rfl | trivial⟩
       case measure => (simp [intOf] <;> omega)
      ·obtain ⟨j, rfl⟩ : ∃ j, k = j + 1 := ⟨k - 1, by omega⟩;have p3 := HL.at (j := j) (by omega);have e3 : l[j]'(by omega) = l.getD j 0 := by simp [List.getD, show j < l.length by omega]
       rw [e3] at p3;have hy : l.getD j 0 < 128 := by rw [← e3]; exact Hlt.out _ (List.getElem_mem _)
       have Hla : Hid (laK l (j + 1) = l.getD j 0) := rfl;obtain ⟨y, hy'⟩ : ∃ y, y = l.getD j 0 := ⟨_, rfl⟩;rw [← hy'] at p3 hy Hla;have E3 := and_one_i64' (y : Int) v (by omega) (by omega);rw [Int.toNat_natCast] at E3;have hk1 : (((j + 1 : Nat) : Int) == 0) = false := by simp; omega
       have s2 : IntKind.i64.wrap (((j + 1 : Nat) : Int) - 1) = (j : Int) := by rw [Go.IntWalk.i64_in _ (by omega)]; omega
       have s4 : wrap64 (((j + 1 : Nat) : Int) - 1) = (j : Int) := by rw [Go.IntWalk.wrap64_in _ (by omega)]; omega
       have i5 : (j : Int) < l.length := by omega
       clear hy' e3 hk0;cases hb3 : y.testBit v
       ·rw [hb3] at E3;have Hs : Hid (bgK l v (j + 1 + 1) = bgK l v (j + 1) + 1) := Hb2.out hb (by rw [Hla.out]; exact hb3);clear hb hb3;go_wp2;go_roundw;case rel => exact ⟨j + 1 + 1, by omega, by go_num, by rw [Hs.out]; first | rfl | exact congrArg (Value.int .i64) s1, by first | rfl | trivial⟩
        case measure => (simp [intOf] <;> omega)
       ·rw [hb3] at E3;have Hs : Hid (bgK l v (j + 1 + 1) = bgK l v (j + 1)) := Hb1.out (.inr (by rw [Hla.out]; exact hb3));clear hb hb3;go_wp2;go_roundw;case rel => exact ⟨j + 1 + 1, by omega, by go_num, by rw [Hs.out], by first | rfl | trivial⟩
        case measure => (simp [intOf] <;> omega)
    ·obtain rfl : l.length = k := by omega
     obtain ⟨B, hB⟩ : ∃ B, B = bgK l v l.length := ⟨_, rfl⟩;rw [← hB] at hbl ⊢;by_cases h1 : 1 < B
     ·have i3 : (1 : Int) < B := by omega
      have Hn : Hid (coB l = false) := coB_no hv7 (by rw [← hB]; exact h1);clear hB h1;go_wp2;go_ret;exact ⟨ret_bool Hn.symm, rfl⟩
     ·have i3 : (B : Int) ≤ 1 := by omega
      have Hy : Hid (∀ u, u < v + 1 → bgK l u l.length ≤ 1) := fun u hu => by
       by_cases huv : u < v
       ·exact hall.out u huv
       ·obtain rfl : u = v := by omega
        rw [← hB]; omega
      clear hB h1;go_wp2;go_roundw;case rel => exact ⟨v + 1, by omega, by go_num, Hy, by first | rfl | trivial⟩
      case measure => (simp [intOf] <;> omega)
  ·have Hy : Hid (coB l = true) := coB_yes fun u hu => hall.out u (by omega)
   have i1 : (7 : Int) ≤ v := by omega
   go_wp2;go_ret;exact ⟨ret_bool Hy.symm, rfl⟩
end Go.Proofs.YtdpkbfiggbcclaaGreat
