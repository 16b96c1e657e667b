/-
  What the functions say of a graph that the law FnHamilton asks, and what the law says of it.
-/
import Derived.Test.YtncjfgebolikoaaQsCntG
import Derived.Test.YtncjfgebolikoaaQsHamTop
import Derived.Test.YtncjfgebolikoaaQsHamU
import Derived.Test.YtncjfgebolikoaaQsUmoS
import Derived.Test.YtncjfgebolikoaaQsSamL
import Derived.Test.YtncjfgebolikoaaQsDrwP
namespace Go.Proofs.Ytncjfgebolikoaa
open Go.RowKit

theorem back_map (l : List Nat) : (l.map fun v : Nat => (v : Int)).map Int.toNat = l := by
  rw [List.map_map]
  conv => rhs; rw [← List.map_id l]
  exact List.map_congr_left fun v _ => by simp
/-- Of a way through all vertices that is found. -/
theorem ham_parts {s : Int} {m : Nat} {x : Nat → Int} {closed : Bool} (h : hamB s m x closed = true) : s = (m : Int) ∧ okB (m : Int) m x = true ∧ sea (rw_ x) m closed m [] = some (hamL s m x closed) := by
  cases hq : hamQ s m x closed with
  | none => rw [(ham_none hq).2] at h; cases h
  | some o =>
    have h2 : hamR s m x closed = some o := by
      unfold hamQ at hq
      split at hq
      · cases hq
      · exact hq
    cases ho : okB s m x with
    | false => rw [hamR_bad ho] at h2; cases h2
    | true =>
      rw [hamR_ok ho] at h2
      obtain ⟨_, es, _, _⟩ := okB_ok' ho
      subst es
      rw [(ham_some hq).1]
      exact ⟨rfl, ho, h2⟩
theorem path_law {r : Nat → Nat} {m : Nat} (vg : VG m r) {o : List Nat} (h : sea r m false m [] = some o) : wayB r o = true ∧ o.length = m ∧ (∀ v ∈ o, v < m) ∧ o.Nodup := by
  have hm := vg.n1
  obtain ⟨hw, _, hlen⟩ := sea_gives m [] o (Way.nil r m false) h
  rw [List.length_nil, Nat.zero_add] at hlen
  exact ⟨way_yes (by rintro rfl; simp at hlen; omega) hw.nodup fun i hi => hw.edge i hi, hlen, hw.lt, hw.nodup⟩
theorem wy_yes {m : Nat} {x : Nat → Int} {o : List Nat} (hok : okB (m : Int) m x = true) (hw : wayB (rw_ x) o = true) (hn : o.Nodup) (hlt : ∀ v ∈ o, v < m) : wyB (m : Int) m x (o.map fun v : Nat => (v : Int)) = true := by
  have hv : vrB (m : Int) m x (o.map fun v : Nat => (v : Int)) = true := by rw [vrB_ok hok]; exact vzB_yes (vz_map hn hlt)
  rw [wyB_ok hv, back_map]
  exact hw
theorem ham_pack (s1 : Int) (m1 : Nat) (x1 : Nat → Int) (hm1 : m1 ≤ 7) :
    ∃ (is circle weak pr cn : Bool) (L D : List Nat) (set cut : Int), L.length ≤ 7 ∧ D.length ≤ 7 ∧
      (is = true → s1 = (L.length : Int)) ∧
      (circle = true → s1 = (D.length : Int) ∧ 1 ≤ D.length ∧ is = true ∧ weak = false) ∧
      (pr = true → cn = true → is = true ∧ (3 ≤ s1 → cut = 0 → circle = true)) ∧
      (∀ (W : World) (A1 : Option Addr) (c1 : Nat), GA W A1 m1 c1 x1 → Calls Try.prog 6 #[.agg #[.int .i64 s1, .slice A1 m1 c1]] W fun e w' => ∃ (A' : Option Addr) (c' : Nat), e = .returned (.tuple #[.slice A' L.length c', .bool is]) ∧ LN w' A' c' L ∧ Below W.heap.size W w') ∧
      (∀ (W : World) (A1 : Option Addr) (c1 : Nat), GA W A1 m1 c1 x1 → Calls Try.prog 7 #[.agg #[.int .i64 s1, .slice A1 m1 c1]] W fun e w' => ∃ (A' : Option Addr) (c' : Nat), e = .returned (.tuple #[.slice A' L.length c', .bool is]) ∧ LN w' A' c' L ∧ Below W.heap.size W w') ∧
      (∀ (W : World) (A1 : Option Addr) (c1 : Nat), GA W A1 m1 c1 x1 → Calls Try.prog 8 #[.agg #[.int .i64 s1, .slice A1 m1 c1]] W fun e w' => ∃ (A' : Option Addr) (c' : Nat), e = .returned (.tuple #[.slice A' D.length c', .bool circle]) ∧ LN w' A' c' D ∧ Below W.heap.size W w') ∧
      (∀ (W : World) (A1 : Option Addr) (c1 : Nat), GA W A1 m1 c1 x1 → Calls Try.prog 9 #[.agg #[.int .i64 s1, .slice A1 m1 c1]] W fun e w' => ∃ (A' : Option Addr) (c' : Nat), e = .returned (.tuple #[.slice A' D.length c', .bool circle]) ∧ LN w' A' c' D ∧ Below W.heap.size W w') ∧
      (∀ (W : World) (A1 : Option Addr) (c1 : Nat), GA W A1 m1 c1 x1 → Calls Try.prog 10 #[.agg #[.int .i64 s1, .slice A1 m1 c1]] W fun e w' => e = .returned (.tuple #[.int .i64 set, .bool weak]) ∧ Below W.heap.size W w') ∧
      (∀ (W : World) (A1 : Option Addr) (c1 : Nat), GA W A1 m1 c1 x1 → Calls Try.prog 11 #[.agg #[.int .i64 s1, .slice A1 m1 c1]] W fun e w' => e = .returned (.tuple #[.int .i64 set, .bool weak]) ∧ Below W.heap.size W w') ∧
      (is = true → ∀ (W : World) (A1 : Option Addr) (c1 : Nat) (A2 : Option Addr) (c2 : Nat), GA W A1 m1 c1 x1 → LN W A2 c2 L → Calls Try.prog 13 #[.agg #[.int .i64 s1, .slice A1 m1 c1], .slice A2 L.length c2] W fun e w' => e = .returned (.bool true) ∧ Below W.heap.size W w') ∧
      (circle = true → ∀ (W : World) (A1 : Option Addr) (c1 : Nat) (A2 : Option Addr) (c2 : Nat), GA W A1 m1 c1 x1 → LN W A2 c2 D → Calls Try.prog 13 #[.agg #[.int .i64 s1, .slice A1 m1 c1], .slice A2 D.length c2] W fun e w' => e = .returned (.bool true) ∧ Below W.heap.size W w') ∧
      (circle = true → ∀ (W : World) (A1 : Option Addr) (c1 : Nat), GA W A1 m1 c1 x1 → Calls Try.prog 14 #[.agg #[.int .i64 s1, .slice A1 m1 c1], .int .i64 (D.getD 0 0 : Nat), .int .i64 (D.getD (D.length - 1) 0 : Nat)] W fun e w' => e = .returned (.bool true) ∧ Below W.heap.size W w') ∧
      (∀ (W : World) (A1 : Option Addr) (c1 : Nat), GA W A1 m1 c1 x1 → Calls Try.prog 15 #[.agg #[.int .i64 s1, .slice A1 m1 c1]] W fun e w' => e = .returned (.int .i64 cut) ∧ Below W.heap.size W w') ∧
      (∀ (W : World) (A1 : Option Addr) (c1 : Nat), GA W A1 m1 c1 x1 → Calls Try.prog 16 #[.agg #[.int .i64 s1, .slice A1 m1 c1]] W fun e w' => e = .returned (.int .i64 cut) ∧ Below W.heap.size W w') ∧
      (∀ (W : World) (A1 : Option Addr) (c1 : Nat), GA W A1 m1 c1 x1 → Calls Try.prog 17 #[.agg #[.int .i64 s1, .slice A1 m1 c1]] W fun e w' => e = .returned (.bool pr) ∧ Below W.heap.size W w') ∧
      (∀ (W : World) (A1 : Option Addr) (c1 : Nat), GA W A1 m1 c1 x1 → Calls Try.prog 18 #[.agg #[.int .i64 s1, .slice A1 m1 c1]] W fun e w' => e = .returned (.bool cn) ∧ Below W.heap.size W w') := by
  have hP : hamB s1 m1 x1 false = true → s1 = (m1 : Int) ∧ okB (m1 : Int) m1 x1 = true ∧ wayB (rw_ x1) (hamL s1 m1 x1 false) = true ∧ (hamL s1 m1 x1 false).length = m1 ∧ (∀ v ∈ hamL s1 m1 x1 false, v < m1) ∧ (hamL s1 m1 x1 false).Nodup := fun h => by
    obtain ⟨e, ho, h2⟩ := ham_parts h
    exact ⟨e, ho, path_law (okB_vg ho).1 h2⟩
  have hC : hamB s1 m1 x1 true = true → s1 = (m1 : Int) ∧ okB (m1 : Int) m1 x1 = true ∧ sea (rw_ x1) m1 true m1 [] = some (hamL s1 m1 x1 true) := ham_parts
  have hwy : ∀ o : List Nat, okB (m1 : Int) m1 x1 = true → wayB (rw_ x1) o = true → o.Nodup → (∀ v ∈ o, v < m1) → o.length ≤ 7 → ∀ (W : World) (A1 : Option Addr) (c1 : Nat) (A2 : Option Addr) (c2 : Nat), GA W A1 m1 c1 x1 → LN W A2 c2 o → Calls Try.prog 13 #[.agg #[.int .i64 (m1 : Int), .slice A1 m1 c1], .slice A2 o.length c2] W fun e w' => e = .returned (.bool true) ∧ Below W.heap.size W w' := by
    intro o ho hw hn hlt h7 W A1 c1 A2 c2 h1 h2
    have := IsWay_z (m1 : Int) A1 m1 c1 x1 A2 o.length c2 _ W h1 h2.li (by omega) (by omega)
    rwa [wy_yes ho hw hn hlt] at this
  refine ⟨hamB s1 m1 x1 false, hamB s1 m1 x1 true, twO s1 m1 x1, ppB s1 m1 x1, cnB s1 m1 x1, hamL s1 m1 x1 false, hamL s1 m1 x1 true, twI s1 m1 x1, cvI s1 m1 x1, ham_len, ham_len, fun h => ?_, fun h => ?_, fun h1 h2 => ?_, ?_, ?_, ?_, ?_, ?_, ?_, fun h => ?_, fun h => ?_, fun h => ?_, ?_, ?_, ?_, ?_⟩
  · obtain ⟨e, _, _, hl, _⟩ := hP h
    rw [hl]; exact e
  · obtain ⟨e, ho, h2⟩ := hC h
    have vg := (okB_vg ho).1
    obtain ⟨_, hl, _, _, hp, ht⟩ := circle_law vg h2
    subst e
    refine ⟨by rw [hl], by rw [hl]; exact vg.n1, ?_, ?_⟩
    · obtain ⟨o, ho2⟩ := Option.isSome_iff_exists.1 hp
      have hq : hamQ (m1 : Int) m1 x1 false = some o := by rw [hamQ_path, hamR_ok ho]; exact ho2
      exact (ham_some hq).2
    · have : tw (m1 : Int) m1 x1 = none := by rw [tw_ok ho]; exact ht
      exact (tw_none this).2
  · have ho : okB s1 m1 x1 = true := by
      cases hb : okB s1 m1 x1
      · rw [ppB_no hb] at h1; cases h1
      · rfl
    obtain ⟨_, e, vg0, _⟩ := okB_ok' ho
    subst e
    have vg := (okB_vg ho).1
    rw [ppB_yes ho] at h1
    unfold cnB at h2
    rw [ho, Bool.true_and, decide_eq_true_eq] at h2
    obtain ⟨a, b⟩ := proper_law vg h1 h2
    constructor
    · obtain ⟨o, ho2⟩ := Option.isSome_iff_exists.1 a
      have hq : hamQ (m1 : Int) m1 x1 false = some o := by rw [hamQ_path, hamR_ok ho]; exact ho2
      exact (ham_some hq).2
    · intro h3 h0
      rw [cvI_yes ho] at h0
      obtain ⟨o, ho2⟩ := Option.isSome_iff_exists.1 (b (by omega) (by omega))
      have hq : hamQ (m1 : Int) m1 x1 true = some o := by rw [hamQ_big h3, hamR_ok ho]; exact ho2
      exact (ham_some hq).2
  · intro W A1 c1 h1
    refine (HamiltonPath_i s1 A1 m1 c1 x1 W W.heap.size h1.rd (Nat.le_refl _) (by omega)).mono ?_
    rintro e w' ⟨A', c', he, ho, hb⟩
    exact ⟨A', c', he, ⟨ho.rd⟩, hb⟩
  · intro W A1 c1 h1
    refine (HamiltonPath_s s1 A1 m1 c1 x1 W W.heap.size h1.rd (Nat.le_refl _) (by omega)).mono ?_
    rintro e w' ⟨A', c', he, ho, hb⟩
    exact ⟨A', c', he, ⟨ho.rd⟩, hb⟩
  · intro W A1 c1 h1
    refine (HamiltonCycle_i s1 A1 m1 c1 x1 W W.heap.size h1.rd (Nat.le_refl _) (by omega)).mono ?_
    rintro e w' ⟨A', c', he, ho, hb⟩
    exact ⟨A', c', he, ⟨ho.rd⟩, hb⟩
  · intro W A1 c1 h1
    refine (HamiltonCycle_s s1 A1 m1 c1 x1 W W.heap.size h1.rd (Nat.le_refl _) (by omega)).mono ?_
    rintro e w' ⟨A', c', he, ho, hb⟩
    exact ⟨A', c', he, ⟨ho.rd⟩, hb⟩
  · exact fun W A1 c1 h1 => ToughnessWitness_i s1 A1 m1 c1 x1 W W.heap.size h1.rd (Nat.le_refl _) (by omega)
  · exact fun W A1 c1 h1 => ToughnessWitness_s s1 A1 m1 c1 x1 W W.heap.size h1.rd (Nat.le_refl _) (by omega)
  · obtain ⟨e, ho, h1, _, h3, h4⟩ := hP h
    subst e
    exact hwy _ ho h1 h4 h3 ham_len
  · obtain ⟨e, ho, h2⟩ := hC h
    subst e
    have vg := (okB_vg ho).1
    have hn1 := vg.n1
    obtain ⟨hw, hl, hlt, _⟩ := circle_law vg h2
    obtain ⟨hway, _⟩ := sea_gives m1 [] _ (Way.nil _ m1 true) h2
    exact hwy _ ho hw hway.nodup hlt ham_len
  · obtain ⟨e, ho, h2⟩ := hC h
    subst e
    have vg := (okB_vg ho).1
    have hn1 := vg.n1
    obtain ⟨_, hl, hlt, he, _⟩ := circle_law vg h2
    intro W A1 c1 h1
    have hne : hamL (m1 : Int) m1 x1 true ≠ [] := by intro e; rw [e] at hl; simp at hl; omega
    obtain ⟨a1, a2, a3, a4⟩ := last_mem hne
    have := HasEdge_sv (GV.of h1.rd (Nat.le_refl _) ho) (hlt _ a3) (hlt _ a1)
    rw [a2, a4]
    unfold edg at he
    rwa [he] at this
  · exact fun W A1 c1 h1 => CutVertices_i s1 A1 m1 c1 x1 W h1 (by omega)
  · exact fun W A1 c1 h1 => CutVertices_s s1 A1 m1 c1 x1 W h1 (by omega)
  · exact fun W A1 c1 h1 => IsProper_s s1 A1 m1 c1 x1 W h1 (by omega)
  · exact fun W A1 c1 h1 => IsConnected_s s1 A1 m1 c1 x1 W h1 (by omega)
/-- How many ways there are, and what is said of that. -/
theorem cnt_pack (s1 : Int) (m1 : Nat) (x1 : Nat → Int) (hm1 : m1 ≤ 7) :
    ∃ (N : Nat) (L : List Nat), L.length ≤ 7 ∧ (s1 = 1 ∨ N % 2 = 0) ∧ N ≤ 823543 ∧
      (∀ (W : World) (A1 : Option Addr) (c1 : Nat), GA W A1 m1 c1 x1 → Calls Try.prog 20 #[.agg #[.int .i64 s1, .slice A1 m1 c1]] W fun e w' => e = .returned (.int .i64 (N : Nat)) ∧ Below W.heap.size W w') ∧
      (∀ (W : World) (A1 : Option Addr) (c1 : Nat), GA W A1 m1 c1 x1 → Calls Try.prog 23 #[.agg #[.int .i64 s1, .slice A1 m1 c1]] W fun e w' => e = .returned (.int .i64 (N : Nat)) ∧ Below W.heap.size W w') ∧
      (∀ (W : World) (A1 : Option Addr) (c1 : Nat), GA W A1 m1 c1 x1 → Calls Try.prog 7 #[.agg #[.int .i64 s1, .slice A1 m1 c1]] W fun e w' => ∃ (A' : Option Addr) (c' : Nat), e = .returned (.tuple #[.slice A' L.length c', .bool (decide (0 < N))]) ∧ LN w' A' c' L ∧ Below W.heap.size W w') := by
  have key : ∃ N : Nat, chI s1 m1 x1 = (N : Int) ∧ (s1 = 1 ∨ N % 2 = 0) ∧ N ≤ 823543 ∧ hamB s1 m1 x1 false = decide (0 < N) := by
    cases ho : okB s1 m1 x1
    · refine ⟨0, chI_no ho, .inr rfl, by omega, ?_⟩
      have hq : hamQ s1 m1 x1 false = none := by rw [hamQ_path, hamR_bad ho]
      exact (ham_none hq).2
    · obtain ⟨_, e, vg0, _⟩ := okB_ok' ho
      subst e
      have vg := (okB_vg ho).1
      have hn1 := vg.n1
      refine ⟨_, chI_yes ho, ?_, cwU_le hm1 (by omega) (Nat.le_refl _), ?_⟩
      · by_cases h1 : m1 = 1
        · exact .inl (by omega)
        · rw [cw_all hn1]
          exact .inr (wayL_even vg (by omega))
      · rw [cw_all hn1, wayL_some]
        cases hs : sea (rw_ x1) m1 false m1 [] with
        | none =>
          have hq : hamQ (m1 : Int) m1 x1 false = none := by rw [hamQ_path, hamR_ok ho]; exact hs
          exact (ham_none hq).2
        | some o =>
          have hq : hamQ (m1 : Int) m1 x1 false = some o := by rw [hamQ_path, hamR_ok ho]; exact hs
          exact (ham_some hq).2
  obtain ⟨N, e1, h2, h3, e4⟩ := key
  refine ⟨N, hamL s1 m1 x1 false, ham_len, h2, h3, ?_, ?_, ?_⟩
  · intro W A1 c1 h1
    have := CountHamiltonPaths_i s1 A1 m1 c1 x1 W h1 (by omega)
    rwa [e1] at this
  · intro W A1 c1 h1
    have := CountHamiltonPaths_s s1 A1 m1 c1 x1 W h1 (by omega)
    rwa [e1] at this
  · intro W A1 c1 h1
    refine (HamiltonPath_s s1 A1 m1 c1 x1 W W.heap.size h1.rd (Nat.le_refl _) (by omega)).mono ?_
    rintro e w' ⟨A', c', he, ho, hb⟩
    rw [e4] at he
    exact ⟨A', c', he, ⟨ho.rd⟩, hb⟩
end Go.Proofs.Ytncjfgebolikoaa
