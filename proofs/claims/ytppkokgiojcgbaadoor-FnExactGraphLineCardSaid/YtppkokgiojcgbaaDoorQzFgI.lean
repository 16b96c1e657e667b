/-
  Contracts: FormatGraph of both programs.
-/
import Derived.Test.YtppkokgiojcgbaaDoorQzShlI
import Derived.Test.YtppkokgiojcgbaaDoorQzDecI
import Derived.Test.YtppkokgiojcgbaaDoorQzGB
namespace Go.Proofs.YtppkokgiojcgbaaDoor
open Go.RowKit

/-- A text, and behind it the first k edges. -/
def fgJ (h : ByteArray) (L : List (List Int)) : Nat → ByteArray
  | 0 => h
  | k + 1 => fgJ h L k ++ ⟨#[32]⟩ ++ itB ((L.getD k []).getD 0 0) ++ itB ((L.getD k []).getD 1 0)
/-- What FormatGraph answers. -/
noncomputable def fgB (s : Int) (m : Nat) (x : Nat → Int) : ByteArray := if okB s m x = true then fgJ (itB m ++ ⟨#[58]⟩) (edgesL s m x) (edgesL s m x).length else ⟨#[]⟩
theorem fgB_no {s : Int} {m : Nat} {x : Nat → Int} (h : okB s m x = false) : fgB s m x = ⟨#[]⟩ := by unfold fgB; rw [h]; rfl
theorem fgB_yes {s : Int} {m : Nat} {x : Nat → Int} {D : List Dsc} (h : okB s m x = true) (hD : lists D = edgesL s m x) : fgB s m x = fgJ (itB m ++ ⟨#[58]⟩) (lists D) D.length := by
  unfold fgB
  rw [if_pos h, ← hD]
  simp [lists]
theorem fgJ_step {h : ByteArray} {D : List Dsc} {k : Nat} {Ad : Option Addr} {cd : Nat} {v u : Int} (hk : D[k]? = some (Ad, cd, [v, u])) : fgJ h (lists D) (k + 1) = fgJ h (lists D) k ++ ⟨#[32]⟩ ++ itB v ++ itB u := by
  show fgJ h _ k ++ _ ++ _ ++ _ = _
  have e : (lists D).getD k [] = [v, u] := by simp [List.getD, lists, hk]
  rw [e]
  rfl
theorem itB_size1 {d : Nat} (h : d < 10) : (itB (d : Int)).size = 1 := by rw [itB_dg h]; rfl
theorem FormatInt_ib (d : Nat) (h : d < 10) (w : World) : Calls Tryd.prog 43 #[.int .i64 d] w fun e w' => e = .returned (.string (itB d)) ∧ Below w.heap.size w w' :=
  (FormatInt_im d (by omega) (by omega) w).mono fun e w' ⟨h1, h2⟩ => ⟨h1, by rw [h2]; exact Below.refl _ _⟩
theorem FormatInt_sb (d : Nat) (h : d < 10) (w : World) : Calls Tryd.prog 31 #[.int .i64 d] w fun e w' => e = .returned (.string (itB d)) ∧ Below w.heap.size w w' := FormatInt_sm d (by omega) (by omega) w
/-- Rows of edges of the call's own. -/
structure EdO (w : World) (lo : Nat) (A : Option Addr) (c : Nat) (D : List Dsc) : Prop where
  own : OwnD w lo w.heap.size A c D
theorem EdO.keep {w w' : World} {lo : Nat} {A : Option Addr} {c : Nat} {D : List Dsc} (h : EdO w lo A c D) (hb : Below w.heap.size w w') : EdO w' lo A c D := ⟨(h.own.keepB hb (Nat.le_refl _)).mono (Nat.le_refl _) hb.size⟩
theorem fgB_size {s : Int} {m : Nat} {x : Nat → Int} : (fgB s m x).size ≤ 84 := by
  cases ho : okB s m x
  · rw [fgB_no ho]; exact Nat.zero_le _
  · obtain ⟨_, es, vg, _⟩ := okB_ok' ho
    subst es
    have hm7 := vg.n7
    unfold fgB
    rw [if_pos ho]
    have hb : ∀ k, k ≤ (edgesL (m : Int) m x).length → (fgJ (itB m ++ ⟨#[58]⟩) (edgesL (m : Int) m x) k).size ≤ 2 + 3 * k := by
      intro k
      induction k with
      | zero => intro _; show (itB m ++ ⟨#[58]⟩).size ≤ _; rw [ByteArray.size_append, itB_size1 (by omega)]; exact Nat.le_refl _
      | succ k ih =>
        intro hk
        have h1 := ih (by omega)
        have hmem : (edgesL (m : Int) m x).getD k [] ∈ edgesL (m : Int) m x := by
          have e : (edgesL (m : Int) m x).getD k [] = (edgesL (m : Int) m x)[k] := by simp [List.getD, Nat.lt_of_succ_le hk]
          rw [e]; exact List.getElem_mem _
        obtain ⟨L, hL⟩ : ∃ L, L = (edgesL (m : Int) m x).getD k [] := ⟨_, rfl⟩
        rw [← hL] at hmem
        unfold edgesL at hmem
        rw [if_pos ho] at hmem
        unfold edAll at hmem
        obtain ⟨p, hp, e⟩ := List.mem_map.1 hmem
        have hp2 := mem_pr.1 (List.mem_filter.1 hp).1
        show (fgJ _ _ k ++ ⟨#[32]⟩ ++ itB (((edgesL (m : Int) m x).getD k []).getD 0 0) ++ itB (((edgesL (m : Int) m x).getD k []).getD 1 0)).size ≤ _
        rw [← hL, ← e]
        rw [ByteArray.size_append, ByteArray.size_append, ByteArray.size_append]
        have a1 : (itB (([(p.1 : Int), (p.2 : Int)] : List Int).getD 0 0)).size = 1 := itB_size1 (by omega)
        have a2 : (itB (([(p.1 : Int), (p.2 : Int)] : List Int).getD 1 0)).size = 1 := itB_size1 (by omega)
        have a3 : (⟨#[32]⟩ : ByteArray).size = 1 := rfl
        omega
    have h2 := hb _ (Nat.le_refl _)
    have h3 : (edgesL (m : Int) m x).length ≤ 21 := by
      unfold edgesL
      rw [if_pos ho]
      exact edAll_len hm7
    omega

set_option maxRecDepth 100000 in
set_option maxHeartbeats 3200000 in
theorem FormatGraph_i (s : Int) (A : Option Addr) (m c : Nat) (x : Nat → Int) (w : World) (h : Rd w w.heap.size A m c x) (hm : m ≤ 1048576) :
    Calls Tryd.prog 21 #[.agg #[.int .i64 s, .slice A m c]] w fun e w' => e = .returned (.string (fgB s m x)) ∧ Below w.heap.size w w' := by
  obtain ⟨W, hW⟩ : ∃ W : World, W = (w.alloc (Obj.cells #[Value.int IntKind.i64 s, Value.slice A m c] 27)) := ⟨_, rfl⟩
  have HB : Hid (From w W) := by rw [hW]; exact From.alloc _ _
  have HC : Hid (GC W w.heap.size s A m c) := by rw [hW]; exact GC.new _ _ _ _ _
  have HR : Hid (∀ z, Below w.heap.size w z → Rd z z.heap.size A m c x) := fun z hz => h.keep hz hz.size
  have HW := Lib.hid hW
  clear hW h
  have KI := Lib.hid (IsGraph_any s A m c x W W.heap.size (HR.out W HB.out.below) (Nat.le_refl _) hm)
  cases ho : okB s m x
  · have HO := Lib.hid (fgB_no ho)
    rw [ho] at KI
    clear ho
    go_enter Tryd.func21, Tryd.ntmps21
    have e0 := HC.out.c0
    have e1 := HC.out.c1
    go_wp2_with fail
    rw [← HW.out]
    refine (KI.out).mono ?_
    rintro e w1 ⟨rfl, hb1⟩
    clear HW
    clear e0 e1
    replace HB := Lib.hid (HB.out.keep hb1)
    replace HC := Lib.hid (HC.out.keep hb1)
    clear hb1
    have e0 := HC.out.c0
    have e1 := HC.out.c1
    go_wp2
    go_ret
    exact ⟨by rw [HO.out]; rfl, HB.out.below⟩
  obtain ⟨_, es, vg, _⟩ := okB_ok' ho
  subst es
  have hm7 := vg.n7
  have Ho := Lib.hid ho
  have KF := Lib.hid (fun z => FormatInt_ib m (by omega) z)
  have hs1 := itB_size1 (d := m) (by omega)
  obtain ⟨P, hP⟩ : ∃ P, P = itB m := ⟨_, rfl⟩
  have HP := Lib.hid hP
  rw [← hP] at KF hs1
  rw [ho] at KI
  clear ho vg hP
  go_enter Tryd.func21, Tryd.ntmps21
  have e0 := HC.out.c0
  have e1 := HC.out.c1
  go_wp2_with fail
  rw [← HW.out]
  refine (KI.out).mono ?_
  rintro e w2 ⟨rfl, hb2⟩
  clear HW
  clear e0 e1
  replace HB := Lib.hid (HB.out.keep hb2)
  replace HC := Lib.hid (HC.out.keep hb2)
  clear hb2
  have e0 := HC.out.c0
  have e1 := HC.out.c1
  go_wp2_with fail
  refine (KF.out w2).mono ?_
  rintro e w3 ⟨rfl, hb3⟩
  clear e0 e1
  replace HB := Lib.hid (HB.out.keep hb3)
  replace HC := Lib.hid (HC.out.keep hb3)
  clear hb3
  have e0 := HC.out.c0
  have e1 := HC.out.c1
  go_wp2_with fail
  refine (EdgesOf_i (m : Int) A m c x w3 w3.heap.size (HR.out w3 HB.out.below) (Nat.le_refl _) hm).mono ?_
  rintro e w4 ⟨A', c', D, rfl, hD, hO3, hb3⟩
  clear e0 e1
  replace HB := Lib.hid (HB.out.keep hb3)
  have HE : Hid (EdO w4 w3.heap.size A' c' D) := ⟨hO3⟩
  have HF : Hid (fgB (m : Int) m x = fgJ (P ++ ⟨#[58]⟩) (lists D) D.length) := by show _ = _; rw [fgB_yes Ho.out hD, HP.out]
  have HG : Hid (∀ k, k < D.length → ∃ Ad cd v u, D[k]? = some (Ad, cd, [((v : Nat) : Int), ((u : Nat) : Int)]) ∧ v < u ∧ u < m) := fun k hk => by
    obtain ⟨Ad, cd, v, u, h1, h2, h3, _⟩ := edge_at hD hk
    exact ⟨Ad, cd, v, u, h1, h2, h3⟩
  have hl := edges_len hD
  obtain ⟨n, hn⟩ : ∃ n, n = D.length := ⟨_, rfl⟩
  have Hn := Lib.hid hn
  obtain ⟨H0, hH0⟩ : ∃ H, H = P ++ (⟨#[58]⟩ : ByteArray) := ⟨_, rfl⟩
  have hz0 : H0.size = 2 := by rw [hH0, ByteArray.size_append, hs1]; rfl
  have HH0 := Lib.hid hH0
  rw [← hn] at hl HF
  rw [← hH0] at HF
  try rw [← hn]
  clear hO3 hb3 hD hn HP hH0 HC
  go_wp2
  try rw [← HH0.out]
  try rw [← Hn.out]
  go_loopw [3, 16] (fun t i wr => ∃ (k : Nat) (S : ByteArray), k ≤ n ∧ i = .int .i64 k ∧ t = .string S ∧ S.size ≤ 2 + 3 * k ∧ Hid (S = fgJ H0 (lists D) k) ∧ Hid (EdO wr w3.heap.size A' c' D) ∧ Hid (From w wr)) (fun _ i _ => n - (intOf i).toNat)
  case atStart => exact ⟨0, _, Nat.zero_le _, rfl, rfl, by omega, rfl, HE, HB⟩
  case round =>
    clear HE HB
    obtain ⟨k, S, hk, rfl, rfl, hS, HS, HE, HB⟩ := hrel
    by_cases hlt : k < n
    · have i1 : (k : Int) < (n : Int) := by omega
      obtain ⟨Ad, cd, v, u, h1, h2, h3⟩ := HG.out k (by rw [← Hn.out]; exact hlt)
      obtain ⟨g, gd, rfl, rfl, q0, q1, q2⟩ := HE.out.own.pair h1
      have HJ : Hid (fgJ H0 (lists D) (k + 1) = S ++ ⟨#[32]⟩ ++ itB v ++ itB u) := by show _ = _; rw [HS.out]; exact fgJ_step h1
      have FV := Lib.hid (fun z : World => FormatInt_ib v (by omega) z)
      have FU := Lib.hid (fun z : World => FormatInt_ib u (by omega) z)
      have hsv := itB_size1 (d := v) (by omega)
      have hsu := itB_size1 (d := u) (by omega)
      obtain ⟨D1, hD1⟩ : ∃ D1, D1 = itB (v : Int) := ⟨_, rfl⟩
      obtain ⟨D2, hD2⟩ : ∃ D2, D2 = itB (u : Int) := ⟨_, rfl⟩
      rw [← hD1] at FV hsv HJ
      rw [← hD2] at FU hsu HJ
      have hs2 : S.size ≤ 65 := by omega
      clear hD1 hD2 h1 h2 h3 HS
      obtain ⟨G, hG⟩ : ∃ G : ByteArray, G = ⟨#[32]⟩ := ⟨_, rfl⟩
      have hsg : G.size = 1 := by rw [hG]; rfl
      have h4 : ¬ 9223372036854775807 < (⟨#[32]⟩ : ByteArray).size + D1.size := by rw [hsv]; decide
      have h5 : ¬ 9223372036854775807 < ((⟨#[32]⟩ : ByteArray) ++ D1).size + D2.size := by rw [ByteArray.size_append, hsv, hsu]; decide
      have h6 : ¬ 9223372036854775807 < S.size + ((⟨#[32]⟩ : ByteArray) ++ D1 ++ D2).size := by rw [ByteArray.size_append, ByteArray.size_append, hsv, hsu]; show ¬ _ < S.size + 3; omega
      have Hsz : Hid ((S ++ ((⟨#[32]⟩ : ByteArray) ++ D1 ++ D2)).size ≤ 2 + 3 * (k + 1)) := by show _ ≤ _; rw [ByteArray.size_append, ByteArray.size_append, ByteArray.size_append, hsv, hsu]; show S.size + 3 ≤ _; omega
      have HJ2 : Hid (S ++ ((⟨#[32]⟩ : ByteArray) ++ D1 ++ D2) = fgJ H0 (lists D) (k + 1)) := by show _ = _; rw [HJ.out]; simp only [ByteArray.append_assoc]
      have k4 : ¬ 9223372036854775807 < 1 + D1.size := by omega
      have k5 : ¬ 9223372036854775807 < 1 + D1.size + D2.size := by omega
      have k6 : ¬ 9223372036854775807 < S.size + (1 + D1.size + D2.size) := by omega
      clear HJ hsv hsu
      go_wp2
      have HSC : Hid (∀ z : World, Below wr.heap.size wr z → (Below wr.heap.size wr z ∧ z.cell? ⟨gd, 0, none⟩ = some (.int .i64 v) ∧ z.cell? ⟨gd, 1, none⟩ = some (.int .i64 u))) := fun z hz => ⟨hz, up_ hz q1, up_ hz q2⟩
      have HZ0 : Hid (Below wr.heap.size wr wr.drew) := (Below.refl _ _).drew
      have HS1 := Lib.hid (HSC.out _ HZ0.out)
      have KR1 : Hid (∀ z : World, Below wr.heap.size wr z → _) := fun z hz => FV.out z
      have KR2 : Hid (∀ z : World, Below wr.heap.size wr z → _) := fun z hz => FU.out z
      go_region_held3 (fun z => Below wr.heap.size wr z ∧ z.cell? ⟨gd, 0, none⟩ = some (.int .i64 v) ∧ z.cell? ⟨gd, 1, none⟩ = some (.int .i64 u))
        (first | exact HS1.out | assumption | exact HSC.out _ hz5 | exact HSC.out _ hz4 | fail)
        (first | (go_at_call 43; ((with_reducible refine (KR1.out _ HZ0.out).mono ?_); rintro e w4 ⟨rfl, hb4⟩; have hz4 := bl_trans HZ0.out hb4)) | (go_at_call 43; ((with_reducible refine (KR2.out _ hz4).mono ?_); rintro e w5 ⟨rfl, hb5⟩; have hz5 := bl_trans hz4 hb5)))
      replace HB := Lib.hid (HB.out.keep hz5)
      replace HE := Lib.hid (HE.out.keep hz5)
      clear hb4 hz4 hb5 hz5 HSC HZ0 HS1 KR1 KR2
      go_wp2
      go_roundw
      case rel => exact ⟨k + 1, _, by omega, by go_num, rfl, Hsz.out, HJ2.out, HE, HB⟩
      case measure => (simp [intOf] <;> omega)
    · have i1 : (n : Int) ≤ (k : Int) := by omega
      obtain rfl : k = n := by omega
      go_wp2
      go_ret
      exact ⟨by rw [HF.out, ← HS.out]; rfl, HB.out.below⟩

set_option maxRecDepth 100000 in
set_option maxHeartbeats 3200000 in
theorem FormatGraph_s (s : Int) (A : Option Addr) (m c : Nat) (x : Nat → Int) (w : World) (h : Rd w w.heap.size A m c x) (hm : m ≤ 1048576) :
    Calls Tryd.prog 11 #[.agg #[.int .i64 s, .slice A m c]] w fun e w' => e = .returned (.string (fgB s m x)) ∧ Below w.heap.size w w' := by
  obtain ⟨W, hW⟩ : ∃ W : World, W = (w.alloc (Obj.cells #[Value.int IntKind.i64 s, Value.slice A m c] 27)) := ⟨_, rfl⟩
  have HB : Hid (From w W) := by rw [hW]; exact From.alloc _ _
  have HC : Hid (GC W w.heap.size s A m c) := by rw [hW]; exact GC.new _ _ _ _ _
  have HR : Hid (∀ z, Below w.heap.size w z → Rd z z.heap.size A m c x) := fun z hz => h.keep hz hz.size
  have HW := Lib.hid hW
  clear hW h
  have KI := Lib.hid (IsGraph_sany s A m c x W W.heap.size (HR.out W HB.out.below) (Nat.le_refl _) hm)
  cases ho : okB s m x
  · have HO := Lib.hid (fgB_no ho)
    rw [ho] at KI
    clear ho
    go_enter Tryd.func11, Tryd.ntmps11
    have e0 := HC.out.c0
    have e1 := HC.out.c1
    go_wp2_with fail
    rw [← HW.out]
    refine (KI.out).mono ?_
    rintro e w1 ⟨rfl, hb1⟩
    clear HW
    clear e0 e1
    replace HB := Lib.hid (HB.out.keep hb1)
    replace HC := Lib.hid (HC.out.keep hb1)
    clear hb1
    have e0 := HC.out.c0
    have e1 := HC.out.c1
    go_wp2
    go_ret
    exact ⟨by rw [HO.out]; rfl, HB.out.below⟩
  obtain ⟨_, es, vg, _⟩ := okB_ok' ho
  subst es
  have hm7 := vg.n7
  have Ho := Lib.hid ho
  have KF := Lib.hid (fun z => FormatInt_sb m (by omega) z)
  have hs1 := itB_size1 (d := m) (by omega)
  obtain ⟨P, hP⟩ : ∃ P, P = itB m := ⟨_, rfl⟩
  have HP := Lib.hid hP
  rw [← hP] at KF hs1
  rw [ho] at KI
  clear ho vg hP
  go_enter Tryd.func11, Tryd.ntmps11
  have e0 := HC.out.c0
  have e1 := HC.out.c1
  go_wp2_with fail
  rw [← HW.out]
  refine (KI.out).mono ?_
  rintro e w2 ⟨rfl, hb2⟩
  clear HW
  clear e0 e1
  replace HB := Lib.hid (HB.out.keep hb2)
  replace HC := Lib.hid (HC.out.keep hb2)
  clear hb2
  have e0 := HC.out.c0
  have e1 := HC.out.c1
  go_wp2_with fail
  refine (KF.out w2).mono ?_
  rintro e w3 ⟨rfl, hb3⟩
  clear e0 e1
  replace HB := Lib.hid (HB.out.keep hb3)
  replace HC := Lib.hid (HC.out.keep hb3)
  clear hb3
  have e0 := HC.out.c0
  have e1 := HC.out.c1
  go_wp2_with fail
  refine (EdgesOf_s (m : Int) A m c x w3 w3.heap.size (HR.out w3 HB.out.below) (Nat.le_refl _) hm).mono ?_
  rintro e w4 ⟨A', c', D, rfl, hD, hO3, hb3⟩
  clear e0 e1
  replace HB := Lib.hid (HB.out.keep hb3)
  have HE : Hid (EdO w4 w3.heap.size A' c' D) := ⟨hO3⟩
  have HF : Hid (fgB (m : Int) m x = fgJ (P ++ ⟨#[58]⟩) (lists D) D.length) := by show _ = _; rw [fgB_yes Ho.out hD, HP.out]
  have HG : Hid (∀ k, k < D.length → ∃ Ad cd v u, D[k]? = some (Ad, cd, [((v : Nat) : Int), ((u : Nat) : Int)]) ∧ v < u ∧ u < m) := fun k hk => by
    obtain ⟨Ad, cd, v, u, h1, h2, h3, _⟩ := edge_at hD hk
    exact ⟨Ad, cd, v, u, h1, h2, h3⟩
  have hl := edges_len hD
  obtain ⟨n, hn⟩ : ∃ n, n = D.length := ⟨_, rfl⟩
  have Hn := Lib.hid hn
  obtain ⟨H0, hH0⟩ : ∃ H, H = P ++ (⟨#[58]⟩ : ByteArray) := ⟨_, rfl⟩
  have hz0 : H0.size = 2 := by rw [hH0, ByteArray.size_append, hs1]; rfl
  have HH0 := Lib.hid hH0
  rw [← hn] at hl HF
  rw [← hH0] at HF
  try rw [← hn]
  clear hO3 hb3 hD hn HP hH0 HC
  go_wp2
  try rw [← HH0.out]
  try rw [← Hn.out]
  go_loopw [3, 5] (fun t i wr => ∃ (k : Nat) (S : ByteArray), k ≤ n ∧ i = .int .i64 k ∧ t = .string S ∧ S.size ≤ 2 + 3 * k ∧ Hid (S = fgJ H0 (lists D) k) ∧ Hid (EdO wr w3.heap.size A' c' D) ∧ Hid (From w wr)) (fun _ i _ => n - (intOf i).toNat)
  case atStart => exact ⟨0, _, Nat.zero_le _, rfl, rfl, by omega, rfl, HE, HB⟩
  case round =>
    clear HE HB
    obtain ⟨k, S, hk, rfl, rfl, hS, HS, HE, HB⟩ := hrel
    by_cases hlt : k < n
    · have i1 : (k : Int) < (n : Int) := by omega
      obtain ⟨Ad, cd, v, u, h1, h2, h3⟩ := HG.out k (by rw [← Hn.out]; exact hlt)
      obtain ⟨g, gd, rfl, rfl, q0, q1, q2⟩ := HE.out.own.pair h1
      have HJ : Hid (fgJ H0 (lists D) (k + 1) = S ++ ⟨#[32]⟩ ++ itB v ++ itB u) := by show _ = _; rw [HS.out]; exact fgJ_step h1
      have FV := Lib.hid (fun z : World => FormatInt_sb v (by omega) z)
      have FU := Lib.hid (fun z : World => FormatInt_sb u (by omega) z)
      have hsv := itB_size1 (d := v) (by omega)
      have hsu := itB_size1 (d := u) (by omega)
      obtain ⟨D1, hD1⟩ : ∃ D1, D1 = itB (v : Int) := ⟨_, rfl⟩
      obtain ⟨D2, hD2⟩ : ∃ D2, D2 = itB (u : Int) := ⟨_, rfl⟩
      rw [← hD1] at FV hsv HJ
      rw [← hD2] at FU hsu HJ
      have hs2 : S.size ≤ 65 := by omega
      clear hD1 hD2 h1 h2 h3 HS
      have h4 : ¬ 9223372036854775807 < S.size + (⟨#[32]⟩ : ByteArray).size := by show ¬ _ < S.size + 1; omega
      have h5 : ¬ 9223372036854775807 < (S ++ (⟨#[32]⟩ : ByteArray)).size + D1.size := by rw [ByteArray.size_append, hsv]; show ¬ _ < S.size + 1 + 1; omega
      have h6 : ¬ 9223372036854775807 < (S ++ (⟨#[32]⟩ : ByteArray) ++ D1).size + D2.size := by rw [ByteArray.size_append, ByteArray.size_append, hsv, hsu]; show ¬ _ < S.size + 1 + 1 + 1; omega
      have Hsz : Hid ((S ++ (⟨#[32]⟩ : ByteArray) ++ D1 ++ D2).size ≤ 2 + 3 * (k + 1)) := by show _ ≤ _; rw [ByteArray.size_append, ByteArray.size_append, ByteArray.size_append, hsv, hsu]; show S.size + 1 + 1 + 1 ≤ _; omega
      have k4 : ¬ 9223372036854775807 < S.size + 1 := by omega
      have k5 : ¬ 9223372036854775807 < S.size + 1 + D1.size := by omega
      have k6 : ¬ 9223372036854775807 < S.size + 1 + D1.size + D2.size := by omega
      clear hsv hsu
      go_wp2
      have HSC : Hid (∀ z : World, Below wr.heap.size wr z → (Below wr.heap.size wr z ∧ z.cell? ⟨g, k, none⟩ = some (.slice (some ⟨gd, 0, none⟩) 2 cd) ∧ z.cell? ⟨gd, 0, none⟩ = some (.int .i64 v) ∧ z.cell? ⟨gd, 1, none⟩ = some (.int .i64 u))) := fun z hz => ⟨hz, up_ hz q0, up_ hz q1, up_ hz q2⟩
      have HZ0 : Hid (Below wr.heap.size wr wr.drew) := (Below.refl _ _).drew
      have HS1 := Lib.hid (HSC.out _ HZ0.out)
      have KR1 : Hid (∀ z : World, Below wr.heap.size wr z → _) := fun z hz => FV.out z
      have KR2 : Hid (∀ z : World, Below wr.heap.size wr z → _) := fun z hz => FU.out z
      go_region_held3 (fun z => Below wr.heap.size wr z ∧ z.cell? ⟨g, k, none⟩ = some (.slice (some ⟨gd, 0, none⟩) 2 cd) ∧ z.cell? ⟨gd, 0, none⟩ = some (.int .i64 v) ∧ z.cell? ⟨gd, 1, none⟩ = some (.int .i64 u))
        (first | exact HS1.out | assumption | exact HSC.out _ hz5 | exact HSC.out _ hz4 | fail)
        (first | (go_at_call 31; ((with_reducible refine (KR1.out _ HZ0.out).mono ?_); rintro e w4 ⟨rfl, hb4⟩; have hz4 := bl_trans HZ0.out hb4)) | (go_at_call 31; ((with_reducible refine (KR2.out _ hz4).mono ?_); rintro e w5 ⟨rfl, hb5⟩; have hz5 := bl_trans hz4 hb5)))
      replace HB := Lib.hid (HB.out.keep hz5)
      replace HE := Lib.hid (HE.out.keep hz5)
      clear hb4 hz4 hb5 hz5 HSC HZ0 HS1 KR1 KR2
      go_wp2
      go_roundw
      case rel => exact ⟨k + 1, _, by omega, by go_num, rfl, Hsz.out, HJ.out.symm, HE, HB⟩
      case measure => (simp [intOf] <;> omega)
    · have i1 : (n : Int) ≤ (k : Int) := by omega
      obtain rfl : k = n := by omega
      go_wp2
      go_ret
      exact ⟨by rw [HF.out, ← HS.out]; rfl, HB.out.below⟩
end Go.Proofs.YtppkokgiojcgbaaDoor
