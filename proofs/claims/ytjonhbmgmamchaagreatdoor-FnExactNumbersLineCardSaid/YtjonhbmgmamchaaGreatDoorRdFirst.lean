/-
  Contracts: the program's search for the first list of different vertices, whatever its two tests are; the second test may write memory of its own.
-/
import Derived.Test.YtjonhbmgmamchaaGreatDoorRdV
import Derived.Test.YtjonhbmgmamchaaGreatDoorRdGC
import Derived.Laws.EntriesVeiled
namespace Go.Proofs.YtjonhbmgmamchaaGreatDoor
open Go.RowKit

def okG (may : List Nat → Bool) (l : List Nat) (v : Nat) : Bool := !decide (v ∈ l) && may (l ++ [v])
def seaG (m : Nat) (may hol : List Nat → Bool) : Nat → List Nat → Option (List Nat)
  | 0, l => if hol l = true then some l else none
  | k + 1, l => (List.range m).findSome? fun v => if okG may l v = true then seaG m may hol k (l ++ [v]) else none
def atG (m : Nat) (may hol : List Nat → Bool) (k : Nat) (l : List Nat) (v : Nat) : Option (List Nat) := if okG may l v = true then seaG m may hol k (l ++ [v]) else none
def visG (m : Nat) (may : List Nat → Bool) : Nat → List Nat → List (List Nat)
  | 0, l => [l]
  | k + 1, l => (List.range m).flatMap fun v => if okG may l v = true then visG m may k (l ++ [v]) else []
def vatG (m : Nat) (may : List Nat → Bool) (k : Nat) (l : List Nat) (v : Nat) : List (List Nat) := if okG may l v = true then visG m may k (l ++ [v]) else []
def visU (m : Nat) (may : List Nat → Bool) (k : Nat) (l : List Nat) (v : Nat) : List (List Nat) := (List.range v).flatMap (vatG m may k l)
section
variable {m k v : Nat} {may hol : List Nat → Bool} {l : List Nat}
theorem okG_in (h : v ∈ l) : okG may l v = false := by unfold okG; rw [decide_eq_true h]; rfl
theorem okG_out (h : v ∉ l) : okG may l v = may (l ++ [v]) := by unfold okG; rw [decide_eq_false h]; rfl
theorem atG_no (h : okG may l v = false) : atG m may hol k l v = none := by unfold atG; rw [h]; rfl
theorem atG_yes (h : okG may l v = true) : atG m may hol k l v = seaG m may hol k (l ++ [v]) := by unfold atG; rw [h]; rfl
theorem visU_no (h : okG may l v = false) : visU m may k l (v + 1) = visU m may k l v := by
  unfold visU; rw [List.range_succ, List.flatMap_append]; simp [vatG, h]
theorem visU_yes (h : okG may l v = true) : visU m may k l (v + 1) = visU m may k l v ++ visG m may k (l ++ [v]) := by
  unfold visU; rw [List.range_succ, List.flatMap_append]; simp [vatG, h]
theorem visU_all : visU m may k l m = visG m may (k + 1) l := rfl
theorem seaG_some {o : List Nat} (hv : v < m) (h : atG m may hol k l v = some o) (hmin : ∀ u, u < v → atG m may hol k l u = none) : seaG m may hol (k + 1) l = some o := range_some hv h hmin
theorem seaG_none (h : ∀ u, u < m → atG m may hol k l u = none) : seaG m may hol (k + 1) l = none := range_none h
end

theorem nodup_len : ∀ {m : Nat} {l : List Nat}, l.Nodup → (∀ v ∈ l, v < m) → l.length ≤ m := by
  intro m
  induction m with
  | zero =>
    intro l _ h
    cases l with
    | nil => exact Nat.le_refl _
    | cons a l => exact absurd (h a (by simp)) (by omega)
  | succ m ih =>
    intro l hn h
    by_cases hm : m ∈ l
    · have h1 := ih (hn.erase m) (fun v hv => by
        have := (hn.mem_erase_iff).1 hv
        have := h v this.2
        omega)
      rw [List.length_erase_of_mem hm] at h1
      omega
    · have := ih hn (fun v hv => by
        have h1 := h v hv
        have : v ≠ m := fun e => hm (e ▸ hv)
        omega)
      omega
/-- What the search leaves. -/
def seaQ (J : List (List Nat) → World → Prop) (vis : List (List Nat)) (lo hi : Nat) (w : World) (o : Option (List Nat)) (vs : List (List Nat)) (e : Ending) (w' : World) : Prop :=
  Fr lo hi w w' ∧ match o with
  | none => e = .returned (.slice none 0 0) ∧ J (vis ++ vs) w'
  | some out => ∃ g c', e = .returned (.slice (some ⟨g, 0, none⟩) out.length c') ∧ Own w' w.heap.size w'.heap.size 3 1 (some ⟨g, 0, none⟩) out.length c' (ni out)
/-- The captured variables. -/
structure EnvF (H m n : Nat) (fm fh : FuncId) (cm ch : Array Value) (z : World) : Prop where
  n : z.cell? ⟨H + 1, 0, none⟩ = some (.int .i64 n)
  g0 : z.cell? ⟨H, 0, none⟩ = some (.int .i64 m)
  may : z.cell? ⟨H + 2, 0, none⟩ = some (.func (.func fm) #[] cm)
  holds : z.cell? ⟨H + 3, 0, none⟩ = some (.func (.func fh) #[] ch)
  srch : z.cell? ⟨H + 4, 0, none⟩ = some (.func (.func 106) #[] #[.pointer (some ⟨H + 1, 0, none⟩), .pointer (some ⟨H + 3, 0, none⟩), .pointer (some ⟨H, 0, none⟩), .pointer (some ⟨H + 2, 0, none⟩), .pointer (some ⟨H + 4, 0, none⟩)])
theorem EnvF.keep {H m n lo hi : Nat} {fm fh : FuncId} {cm ch : Array Value} {z z' : World} (h : EnvF H m n fm fh cm ch z) (hf : Fr lo hi z z') (hH : hi ≤ H) : EnvF H m n fm fh cm ch z' := by
  have k : ∀ {b o : Nat} {v : Value}, H ≤ b → z.cell? ⟨b, o, none⟩ = some v → z'.cell? ⟨b, o, none⟩ = some v := fun hb e => frC_ hf e (World.block_lt_of_cell? _ _ e) (.inr (by omega))
  exact ⟨k (by omega) h.n, k (by omega) h.g0, k (by omega) h.may, k (by omega) h.holds, k (by omega) h.srch⟩

set_option maxRecDepth 100000 in
set_option maxHeartbeats 1000000 in
theorem clone_n (b o c : Nat) (l : List Nat) (w : World) (h : Rd w w.heap.size (some ⟨b, o, none⟩) l.length c (fun j => ((l.getD j 0 : Nat) : Int))) (h0 : l ≠ []) (hlen : l.length ≤ 7) :
    Calls Tryz.prog 107 #[.slice (some ⟨b, o, none⟩) l.length c] w fun e w' => ∃ g c', e = .returned (.slice (some ⟨g, 0, none⟩) l.length c') ∧ Own w' w.heap.size w'.heap.size 3 1 (some ⟨g, 0, none⟩) l.length c' (ni l) ∧ Below w.heap.size w w' := by
  have HO : Hid (Own (w.alloc (Obj.cells #[] 3)) w.heap.size (w.heap.size + 1) 3 1 (some ⟨w.heap.size, 0, none⟩) 0 0 (ni [])) :=
    .inr ⟨w.heap.size, #[], rfl, Nat.le_refl _, Nat.lt_succ_self _, heap_alloc_new w _, Nat.le_refl _, by unfold maxLen; omega, rfl, fun j hj => absurd hj (by omega)⟩
  have HR : Hid (Rd (w.alloc (Obj.cells #[] 3)) w.heap.size (some ⟨b, o, none⟩) l.length c (fun j => ((l.getD j 0 : Nat) : Int))) := h.keep ((Below.refl _ _).alloc (Nat.le_refl _) _) (Nat.le_refl _)
  have hpos : 0 < l.length := List.length_pos_iff.2 h0
  have H0 := Lib.hid hpos
  clear h h0 hpos
  have he : ∀ w : World, (binOp .eql 22 (.slice (some ⟨b, o, none⟩) l.length c) (.slice none 0 0)).run Tryz.prog w = .ok (.bool false) w := fun _ => rfl
  go_enter Tryz.func107, Tryz.ntmps107
  go_wp2_with (first | (at_builtin; (refine wpList_appendI _ rfl _ _ rfl rfl HO.out rfl HR.out (by simp) (by omega) (by omega) ?_; intro A' c' w1 hO hb)))
  rw [Nat.zero_add] at hO
  have hO2 := hO.congr (y := ni l) (fun j hj => by unfold thenI ni; simp)
  obtain ⟨g, rfl, _⟩ := hO2.at_ H0.out
  have HO2 := Lib.hid hO2
  have HB : Hid (Below w.heap.size w w1) := ((Below.refl _ _).alloc (Nat.le_refl _) _).trans hb
  clear hO hO2 hb
  go_wp2
  go_ret
  exact ⟨g, c', rfl, HO2.out, HB.out⟩

section
variable {m n H lo hi : Nat} {fm fh : FuncId} {cm ch : Array Value} {may hol : List Nat → Bool} {J : List (List Nat) → World → Prop}
set_option maxRecDepth 100000 in
set_option maxHeartbeats 3200000 in
theorem search_g (hem : Ent fm) (heh : Ent fh) (hm7 : m ≤ 7) (hn : 0 < n) (hlh : hi ≤ H)
    (hJ : ∀ vis z z', J vis z → Below z.heap.size z z' → J vis z')
    (HM : ∀ (vis : List (List Nat)) (l : List Nat) (A : Option Addr) (c : Nat) (z : World), J vis z → Rd z z.heap.size A l.length c (fun j => ((l.getD j 0 : Nat) : Int)) → l ≠ [] → (∀ v ∈ l, v < m) → l.Nodup → Calls Tryz.prog fm (#[.slice A l.length c] ++ cm) z (fun e z' => e = .returned (.bool (may l)) ∧ Below z.heap.size z z'))
    (HH : ∀ (vis : List (List Nat)) (l : List Nat) (A : Option Addr) (c : Nat) (z : World), J vis z → Rd z z.heap.size A l.length c (fun j => ((l.getD j 0 : Nat) : Int)) → l.length = n → (∀ v ∈ l, v < m) → l.Nodup → Calls Tryz.prog fh (#[.slice A l.length c] ++ ch) z (fun e z' => e = .returned (.bool (hol l)) ∧ J (vis ++ [l]) z' ∧ Fr lo hi z z')) :
    ∀ (k : Nat) (l : List Nat) (vis : List (List Nat)) (Al : Option Addr) (cl : Nat) (w : World), l.length + k = n → (∀ v ∈ l, v < m) → l.Nodup → J vis w → EnvF H m n fm fh cm ch w → Own w H w.heap.size 3 1 Al l.length cl (ni l) → (Al = none → l = []) →
    Calls Tryz.prog 106 #[.slice Al l.length cl, .pointer (some ⟨H + 1, 0, none⟩), .pointer (some ⟨H + 3, 0, none⟩), .pointer (some ⟨H, 0, none⟩), .pointer (some ⟨H + 2, 0, none⟩), .pointer (some ⟨H + 4, 0, none⟩)] w (seaQ J vis lo hi w (seaG m may hol k l) (visG m may k l)) := by
  have HJ := Lib.hid hJ
  have HM := Lib.hid HM
  have HH := Lib.hid HH
  unfold Ent at hem heh
  clear hJ
  intro k
  induction k with
  | zero =>
    intro l vis Al cl w hlm hlt hnd hj hE hO hA
    have hl0 : l ≠ [] := by rintro rfl; simp at hlm; omega
    have e0 := hE.n
    have e1 := hE.holds
    have hl7 : l.length ≤ 7 := by have := nodup_len hnd hlt; omega
    have hpos : 0 < l.length := List.length_pos_iff.2 hl0
    obtain ⟨g, rfl, _⟩ := hO.at_ hpos
    have HR : Hid (Rd w w.heap.size (some ⟨g, 0, none⟩) l.length cl (fun j => ((l.getD j 0 : Nat) : Int))) := hO.rd
    have KH := Lib.hid (HH.out vis l (some ⟨g, 0, none⟩) cl w hj HR.out (by omega) hlt hnd)
    have HE := Lib.hid hE
    have HO := Lib.hid hO
    have Hl0 := Lib.hid hl0
    have heq : ((l.length : Int) == (n : Int)) = true := by simp; omega
    have heq2 : (l.length = n) = True := by simp; omega
    clear hlm hlt hnd hj hE hO hA hl0
    go_enter Tryz.func106, Tryz.ntmps106
    go_wp2_with fail
    refine KH.out.mono ?_
    rintro e w1 ⟨rfl, hj1, hf1⟩
    have HO1 : Hid (Own w1 H w.heap.size 3 1 (some ⟨g, 0, none⟩) l.length cl (ni l)) := HO.out.keep hf1 (.inr hlh)
    have HR1 : Hid (Rd w1 w1.heap.size (some ⟨g, 0, none⟩) l.length cl (fun j => ((l.getD j 0 : Nat) : Int))) := (HO1.out.mono (Nat.le_refl _) hf1.size).rd
    have HF1 := Lib.hid hf1
    have HJ1 := Lib.hid hj1
    clear hf1 hj1 e0 e1
    cases ht : hol l
    · have hf : Hid (seaG m may hol 0 l = none) := by show (if _ then _ else _) = _; rw [ht]; rfl
      clear ht
      go_wp2
      go_ret
      rw [hf.out]
      exact ⟨HF1.out, rfl, HJ1.out⟩
    · have hf : Hid (seaG m may hol 0 l = some l) := by show (if _ then _ else _) = _; rw [ht]; rfl
      clear ht
      go_wp2_with fail
      refine (clone_n g 0 cl l w1 HR1.out Hl0.out hl7).mono ?_
      rintro e w2 ⟨g', c', rfl, hO2, hb2⟩
      have HO2 : Hid (Own w2 w.heap.size w2.heap.size 3 1 (some ⟨g', 0, none⟩) l.length c' (ni l)) := hO2.mono HF1.out.size (Nat.le_refl _)
      have HF2 : Hid (Fr lo hi w w2) := HF1.out.trans (Fr.of_below hb2)
      clear hO2 hb2
      go_wp2
      go_ret
      rw [hf.out]
      exact ⟨HF2.out, g', c', rfl, HO2.out⟩
  | succ k ih =>
    intro l vis Al cl w hlm hlt hnd hj hE hO hA
    have IH := Lib.hid ih
    have HE := Lib.hid hE
    have HO := Lib.hid hO
    have Hlt := Lib.hid hlt
    have Hnd := Lib.hid hnd
    have HA := Lib.hid hA
    have HJ0 := Lib.hid hj
    have e0 := hE.n
    have e2 := hE.g0
    have hne : ((l.length : Int) == (n : Int)) = false := by simp; omega
    have hne2 : (l.length = n) = False := by simp; omega
    have hcap : l.length ≤ cl := hO.le
    have hl7 : l.length ≤ 7 := by have := nodup_len hnd hlt; omega
    have Hlm := Lib.hid hlm
    clear ih hE hO hlt hnd hA hj hlm
    go_enter Tryz.func106, Tryz.ntmps106
    go_wp2
    go_loopw [22] (fun i wr => ∃ v : Nat, v ≤ m ∧ i = .int .i64 v ∧ Hid (∀ u, u < v → atG m may hol k l u = none) ∧ Hid (Fr lo hi w wr) ∧ Hid (J (vis ++ visU m may k l v) wr)) (fun i _ => m - (intOf i).toNat)
    case atStart => exact ⟨0, Nat.zero_le _, rfl, (fun u hu => absurd hu (by omega)), Fr.refl _ _ _, by show J (vis ++ []) w; rw [List.append_nil]; exact HJ0.out⟩
    case round =>
      obtain ⟨v, hv, rfl, hall, hbr, hjr⟩ := hrel
      have zr := hbr.out.size
      by_cases hvm : v < m
      · have HOr : Hid (Own wr H wr.heap.size 3 1 Al l.length cl (ni l)) := (HO.out.keep hbr.out (.inr hlh)).mono (Nat.le_refl _) zr
        have i1 : (v : Int) < (m : Int) := by omega
        have hcap2 : (l.length : Int) ≤ (cl : Int) := by omega
        have HRl : Hid (Rd wr wr.heap.size Al l.length l.length (fun j => ((l.getD j 0 : Nat) : Int))) := ⟨Nat.le_refl _, HOr.out.rd.2⟩
        have HEr := Lib.hid (HE.out.keep hbr.out hlh)
        have q0 := HEr.out.g0
        go_wp2_with (first | (at_builtin; (refine wpList_moreN wr rfl _ _ rfl wr.heap.size Al l HA.out HRl.out (Nat.le_refl _) v rfl 1 wr.heap.size rfl rfl (by omega) ?_; intro g cap w3 hO3 hb3)))
        have z3 := hb3.size
        have HF3 : Hid (Fr lo hi w w3) := hbr.out.trans (Fr.of_below hb3)
        have HJ3 : Hid (J (vis ++ visU m may k l v) w3) := HJ.out _ _ _ hjr.out hb3
        have HE3 := Lib.hid (HE.out.keep HF3.out hlh)
        have HL3 : Hid (Rd w3 w3.heap.size Al l.length cl (fun j => ((l.getD j 0 : Nat) : Int))) := HOr.out.rd.keep hb3 z3
        have hla : (l ++ [v]).length = l.length + 1 := by rw [List.length_append]; rfl
        have hH : H ≤ wr.heap.size := by have := World.block_lt_of_cell? _ _ q0; simp at this; omega
        have HO3 : Hid (Own w3 H w3.heap.size 3 1 (some ⟨g, 0, none⟩) (l ++ [v]).length cap (ni (l ++ [v]))) := by show Own _ _ _ _ _ _ _ _ _; rw [hla]; exact hO3.mono hH (Nat.le_refl _)
        have Hla := Lib.hid hla
        have e3 := HE3.out.may
        have e4 := HE3.out.srch
        clear hO3 hb3 HOr HRl hbr hla hjr q0 HEr
        by_cases hvl : v ∈ l
        · have Hno : Hid (okG may l v = false) := okG_in hvl
          go_wp2_with fail
          refine (Contains_i Al l.length cl l v w3 w3.heap.size ⟨rfl, HL3.out⟩ (by omega)).mono ?_
          rintro e w' ⟨rfl, rfl⟩
          rw [decide_eq_true hvl]
          clear hvl e3 e4
          go_wp2
          refine ⟨⟨v + 1, by omega, by go_num, fun u hu => ?_, HF3, by rw [visU_no Hno.out]; exact HJ3⟩, by simp [intOf] <;> omega⟩
          by_cases huv : u < v
          · exact hall.out u huv
          · obtain rfl : u = v := by omega
            exact atG_no Hno.out
        · have Hc : Hid (okG may l v = may (l ++ [v])) := okG_out hvl
          have Hne : Hid (l ++ [v] ≠ []) := by show l ++ [v] ≠ []; simp
          have Hlt2 : Hid (∀ u ∈ l ++ [v], u < m) := by
            intro u hu
            rw [List.mem_append, List.mem_singleton] at hu
            rcases hu with hu | rfl
            · exact Hlt.out u hu
            · exact hvm
          have Hnd2 : Hid ((l ++ [v]).Nodup) := by
            show List.Nodup _
            rw [List.nodup_append]
            exact ⟨Hnd.out, by simp, fun a ha b hb e => by rw [List.mem_singleton] at hb; subst hb; subst e; exact hvl ha⟩
          go_wp2_with fail
          refine (Contains_i Al l.length cl l v w3 w3.heap.size ⟨rfl, HL3.out⟩ (by omega)).mono ?_
          rintro e w' ⟨rfl, rfl⟩
          rw [decide_eq_false hvl]
          clear hvl
          have KM := Lib.hid (HM.out _ (l ++ [v]) (some ⟨g, 0, none⟩) cap w3 HJ3.out HO3.out.rd Hne.out Hlt2.out Hnd2.out)
          rw [Hla.out] at KM
          go_wp2_with fail
          refine KM.out.mono ?_
          rintro e w4 ⟨rfl, hb4⟩
          rw [← Hc.out]
          have z4 := hb4.size
          have HF4 : Hid (Fr lo hi w w4) := HF3.out.trans (Fr.of_below hb4)
          have HJ4 : Hid (J (vis ++ visU m may k l v) w4) := HJ.out _ _ _ HJ3.out hb4
          have HE4 := Lib.hid (HE.out.keep HF4.out hlh)
          have e5 := HE4.out.srch
          have HO4 : Hid (Own w4 H w4.heap.size 3 1 (some ⟨g, 0, none⟩) (l ++ [v]).length cap (ni (l ++ [v]))) := (HO3.out.keepB hb4 (Nat.le_refl _)).mono (Nat.le_refl _) z4
          clear hb4 KM e3 e4 HJ3 HE3 HL3
          cases hc : okG may l v
          · have Hn : Hid (okG may l v = false) := hc
            clear hc e5
            go_wp2
            refine ⟨⟨v + 1, by omega, by go_num, fun u hu => ?_, HF4, by rw [visU_no Hn.out]; exact HJ4⟩, by simp [intOf] <;> omega⟩
            by_cases huv : u < v
            · exact hall.out u huv
            · obtain rfl : u = v := by omega
              exact atG_no Hn.out
          · have Hn : Hid (okG may l v = true) := hc
            have KI := Lib.hid (IH.out (l ++ [v]) (vis ++ visU m may k l v) (some ⟨g, 0, none⟩) cap w4 (by rw [Hla.out]; have := Hlm.out; omega) Hlt2.out Hnd2.out HJ4.out HE4.out HO4.out (fun e => by cases e))
            rw [Hla.out] at KI
            clear hc
            go_wp2_with fail
            refine KI.out.mono ?_
            rintro e w5 ⟨hf5, hp⟩
            have HF5 : Hid (Fr lo hi w w5) := HF4.out.trans hf5
            have z5 := hf5.size
            clear hf5
            cases hs : seaG m may hol k (l ++ [v]) with
            | none =>
              rw [hs] at hp
              obtain ⟨rfl, hj5⟩ := hp
              have Hn2 : Hid (atG m may hol k l v = none) := (atG_yes Hn.out).trans hs
              have HJ5 : Hid (J (vis ++ visU m may k l (v + 1)) w5) := by show J _ _; rw [visU_yes Hn.out, ← List.append_assoc]; exact hj5
              clear hs hj5 e5 KI
              go_wp2
              refine ⟨⟨v + 1, by omega, by go_num, fun u hu => ?_, HF5, HJ5⟩, by simp [intOf] <;> omega⟩
              by_cases huv : u < v
              · exact hall.out u huv
              · obtain rfl : u = v := by omega
                exact Hn2.out
            | some out =>
              rw [hs] at hp
              obtain ⟨g5, c5, rfl, hO5⟩ := hp
              have Hs : Hid (seaG m may hol (k + 1) l = some out) := seaG_some hvm ((atG_yes Hn.out).trans hs) hall.out
              have HO5 : Hid (Own w5 w.heap.size w5.heap.size 3 1 (some ⟨g5, 0, none⟩) out.length c5 (ni out)) := hO5.mono HF4.out.size (Nat.le_refl _)
              clear hs hO5 e5 KI
              go_wp2
              go_ret
              rw [Hs.out]
              exact ⟨HF5.out, g5, c5, rfl, HO5.out⟩
      · have hnn : Hid (seaG m may hol (k + 1) l = none) := seaG_none fun u hu => hall.out u (by omega)
        have hve : v = m := by omega
        have Hj : Hid (J (vis ++ visG m may (k + 1) l) wr) := by show J _ _; rw [← visU_all]; have := hjr.out; rw [hve] at this; exact this
        have i1 : (m : Int) ≤ (v : Int) := by omega
        clear hve
        go_wp2
        go_ret
        rw [hnn.out]
        exact ⟨hbr.out, rfl, Hj.out⟩

/-- What the whole leaves. -/
def firQ (J : List (List Nat) → World → Prop) (lo hi : Nat) (w : World) (o : Option (List Nat)) (vs : List (List Nat)) (e : Ending) (w' : World) : Prop :=
  Fr lo hi w w' ∧ match o with
  | none => e = .returned (.tuple #[.slice none 0 0, .bool false]) ∧ J vs w'
  | some out => ∃ g c', e = .returned (.tuple #[.slice (some ⟨g, 0, none⟩) out.length c', .bool true]) ∧ Own w' w.heap.size w'.heap.size 3 1 (some ⟨g, 0, none⟩) out.length c' (ni out)

set_option maxRecDepth 100000 in
set_option maxHeartbeats 1600000 in
theorem firstList_g {A : Option Addr} {c : Nat} {r : Nat → Nat} (hem : Ent fm) (heh : Ent fh) (w : World) (h : GV w A m c r) (hn : 0 < n) (hlh : hi ≤ w.heap.size)
    (hJ : ∀ vis z z', J vis z → Below z.heap.size z z' → J vis z') (hJ0 : J [] w)
    (HM : ∀ (vis : List (List Nat)) (l : List Nat) (A : Option Addr) (c : Nat) (z : World), J vis z → Rd z z.heap.size A l.length c (fun j => ((l.getD j 0 : Nat) : Int)) → l ≠ [] → (∀ v ∈ l, v < m) → l.Nodup → Calls Tryz.prog fm (#[.slice A l.length c] ++ cm) z (fun e z' => e = .returned (.bool (may l)) ∧ Below z.heap.size z z'))
    (HH : ∀ (vis : List (List Nat)) (l : List Nat) (A : Option Addr) (c : Nat) (z : World), J vis z → Rd z z.heap.size A l.length c (fun j => ((l.getD j 0 : Nat) : Int)) → l.length = n → (∀ v ∈ l, v < m) → l.Nodup → Calls Tryz.prog fh (#[.slice A l.length c] ++ ch) z (fun e z' => e = .returned (.bool (hol l)) ∧ J (vis ++ [l]) z' ∧ Fr lo hi z z')) :
    Calls Tryz.prog 74 #[.agg #[.int .i64 m, .slice A m c], .int .i64 n, .func (.func fm) #[] cm, .func (.func fh) #[] ch] w (firQ J lo hi w (seaG m may hol n []) (visG m may n [])) := by
  have hm7 := h.vg.n7
  obtain ⟨W4, hW4⟩ : ∃ W : World, W = ((((w.alloc (Obj.cells #[Value.int IntKind.i64 m, Value.slice A m c] 27)).alloc (Obj.cells #[Value.int IntKind.i64 n] 3)).alloc (Obj.cells #[.func (.func fm) #[] cm] 66)).alloc (Obj.cells #[.func (.func fh) #[] ch] 66)) := ⟨_, rfl⟩
  have HB4 : Hid (Below w.heap.size w W4) := by rw [hW4]; exact (((((Below.refl _ _).alloc (Nat.le_refl _) _).alloc (by simp) _).alloc (by simp; omega) _).alloc (by simp; omega) _)
  have hz4 : w.heap.size + 1 + 1 + 1 + 1 = W4.heap.size := by rw [hW4]; simp
  have a0 : W4.cell? ⟨w.heap.size, 0, none⟩ = some (.int .i64 m) := by rw [hW4]; simp [go_sem]
  have a2 : W4.cell? ⟨w.heap.size + 1, 0, none⟩ = some (.int .i64 n) := by rw [hW4]; simp [go_sem]
  have a3 : W4.cell? ⟨w.heap.size + 2, 0, none⟩ = some (.func (.func fm) #[] cm) := by rw [hW4]; simp [go_sem]
  have a4 : W4.cell? ⟨w.heap.size + 3, 0, none⟩ = some (.func (.func fh) #[] ch) := by rw [hW4]; simp [go_sem]
  have a1 : W4.cell? ⟨w.heap.size, 1, none⟩ = some (.slice A m c) := by rw [hW4]; simp [go_sem]
  obtain ⟨W, hW⟩ : ∃ W : World, W = W4.alloc (Obj.cells #[.func (.func 106) #[] #[.pointer (some ⟨w.heap.size + 1, 0, none⟩), .pointer (some ⟨w.heap.size + 1 + 1 + 1, 0, none⟩), .pointer (some ⟨w.heap.size, 0, none⟩), .pointer (some ⟨w.heap.size + 1 + 1, 0, none⟩), .pointer (some ⟨W4.heap.size, 0, none⟩)]] 42) := ⟨_, rfl⟩
  have hbW : Below W4.heap.size W4 W := by rw [hW]; exact (Below.refl _ _).alloc (Nat.le_refl _) _
  have HB : Hid (Below w.heap.size w W) := HB4.out.trans (hbW.mono (by omega))
  have e0 := up hbW a0 (by omega)
  have e1 := up hbW a1 (by omega)
  have e4 : W.cell? ⟨W4.heap.size, 0, none⟩ = some (.func (.func 106) #[] #[.pointer (some ⟨w.heap.size + 1, 0, none⟩), .pointer (some ⟨w.heap.size + 1 + 1 + 1, 0, none⟩), .pointer (some ⟨w.heap.size, 0, none⟩), .pointer (some ⟨w.heap.size + 1 + 1, 0, none⟩), .pointer (some ⟨W4.heap.size, 0, none⟩)]) := by rw [hW]; simp [go_sem]
  have hzz : W4.heap.size = w.heap.size + 4 := by omega
  have HE : Hid (EnvF w.heap.size m n fm fh cm ch W) := by
    have e4' := e4
    rw [hzz] at e4'
    exact ⟨up hbW a2 (by omega), e0, up hbW a3 (by omega), up hbW a4 (by omega), e4'⟩
  have hsz : W4.heap.size < W.heap.size := by rw [hW]; simp
  have HK := Lib.hid (h.keep HB.out)
  have HJ0 : Hid (J [] W) := hJ _ _ _ hJ0 HB.out
  have HW := Lib.hid hW
  have HW4 := Lib.hid hW4
  have HZ4 := Lib.hid hz4
  have HZZ := Lib.hid hzz
  have c0 : w.heap.size ≤ W.heap.size := by omega
  have c1 : w.heap.size < W4.heap.size := by omega
  have KS := Lib.hid (search_g (m := m) (n := n) (H := w.heap.size) (lo := lo) (hi := hi) (fm := fm) (fh := fh) (cm := cm) (ch := ch) (may := may) (hol := hol) (J := J) hem heh hm7 hn hlh hJ HM HH n [] [] none 0)
  have HJ := Lib.hid hJ
  clear hW hW4 h a2 a3 a4 hz4 hbW hzz hJ0 HM HH hJ
  go_enter Tryz.func74, Tryz.ntmps74
  go_upto_region 2 with (fail)
  rw [← HW4.out, HZ4.out]
  clear HW4
  go_wp2_with fail
  rw [← HW.out]
  clear HW
  refine (IsGraph_v HK.out).mono ?_
  rintro e w1 ⟨rfl, hb1⟩
  have z1 := hb1.size
  have f4 := up hb1 e4 hsz
  have HB1 : Hid (Below w.heap.size w w1) := HB.out.trans (hb1.mono c0)
  have HE1 : Hid (EnvF w.heap.size m n fm fh cm ch w1) := HE.out.keep (Fr.of_below (lo := hi) (hi := hi) hb1) hlh
  have HJ1 : Hid (J [] w1) := HJ.out _ _ _ HJ0.out hb1
  have KS1 := Lib.hid (KS.out w1 (by simp) (fun v hv => by cases hv) List.nodup_nil HJ1.out HE1.out (Own.nil _ _ _ _ _ _) (fun _ => by first | rfl | trivial))
  rw [List.length_nil, ← HZZ.out] at KS1
  clear hb1 e0 e1 e4 HK HE HB a0 a1 KS
  go_wp2_with fail
  refine KS1.out.mono ?_
  rintro e w2 ⟨hf2, hp⟩
  have HF2 : Hid (Fr lo hi w w2) := (Fr.of_below HB1.out).trans hf2
  clear hf2
  cases hs : seaG m may hol n [] with
  | none =>
    rw [hs] at hp
    obtain ⟨rfl, hj2⟩ := hp
    have HJ2 := Lib.hid hj2
    have Hs := Lib.hid hs
    clear hs hj2 KS1 f4
    go_wp2
    go_ret2
    rw [Hs.out]
    exact ⟨HF2.out, rfl, by simpa using HJ2.out⟩
  | some out =>
    rw [hs] at hp
    obtain ⟨g, c', rfl, hO⟩ := hp
    have HO : Hid (Own w2 w.heap.size w2.heap.size 3 1 (some ⟨g, 0, none⟩) out.length c' (ni out)) := hO.mono HB1.out.size (Nat.le_refl _)
    have Hs := Lib.hid hs
    clear hs hO KS1 f4
    go_wp2
    go_ret2
    rw [Hs.out]
    exact ⟨HF2.out, g, c', rfl, HO.out⟩
end
end Go.Proofs.YtjonhbmgmamchaaGreatDoor
