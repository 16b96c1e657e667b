/-
  Several texts in one.
-/
import Derived.Test.YtfabbohijhjpcaaGreatDoorRcPthI
import Derived.Test.YtfabbohijhjpcaaGreatDoorRcOdd
/-
-/
namespace Go.Proofs.YtfabbohijhjpcaaGreatDoor
open Go.RowKit
abbrev freM : List Nat → Bool := fun _ => true
theorem fs_congr {α : Type} {f g : Nat → Option α} : ∀ {l : List Nat}, (∀ v ∈ l, f v = g v) → l.findSome? f = l.findSome? g := by
 intro l
 induction l with
 | nil => intro _; rfl
 | cons a l ih =>
   intro h
   rw [List.findSome?_cons, List.findSome?_cons, h a (by simp), ih (fun v hv => h v (by simp [hv]))]
theorem seaG_sound {m : Nat} {may hol : List Nat → Bool} : ∀ (k : Nat) (l o : List Nat), seaG m may hol k l = some o → hol o = true ∧ o.length = l.length + k ∧ l <+: o := by
 intro k
 induction k with
 | zero =>
   intro l o h
   unfold seaG at h
   split at h
   ·rename_i hh
    obtain rfl := Option.some.inj h
    exact ⟨hh, rfl, List.prefix_refl _⟩
   ·cases h
 | succ k ih =>
   intro l o h
   unfold seaG at h
   obtain ⟨v, _, hv⟩ := List.exists_of_findSome?_eq_some h
   split at hv
   ·obtain ⟨a, b, c⟩ := ih _ _ hv
    exact ⟨a, by rw [b, List.length_append, List.length_singleton]; omega, (List.prefix_append l [v]).trans c⟩
   ·cases hv
theorem seaG_free {m : Nat} {may hol : List Nat → Bool} : ∀ (k : Nat) (l : List Nat), (∀ o, hol o = true → o.length = l.length + k → ∀ a, a <+: o → l.length < a.length → may a = true) → seaG m may hol k l = seaG m freM hol k l := by
 intro k
 induction k with
 | zero => intro l _; rfl
 | succ k ih =>
   intro l h
   have hlen : ∀ v : Nat, (l ++ [v]).length = l.length + 1 := fun v => by rw [List.length_append]; rfl
   have hs : ∀ v : Nat, seaG m may hol k (l ++ [v]) = seaG m freM hol k (l ++ [v]) := fun v => ih (l ++ [v]) fun o ho hl a ha hla => h o ho (by rw [hl, hlen]; omega) a ha (by rw [hlen] at hla; omega)
   unfold seaG
   refine fs_congr fun v _ => ?_
   by_cases hv : v ∈ l
   ·rw [okG_in hv, okG_in hv]
    rfl
   ·rw [okG_out hv, okG_out hv, hs v]
    cases hm : may (l ++ [v])
    ·rw [if_neg (by simp), if_pos rfl]
     cases hf : seaG m freM hol k (l ++ [v]) with
     | none => rfl
     | some o =>
       obtain ⟨a, b, c⟩ := seaG_sound _ _ _ hf
       have := h o a (by rw [b, hlen]; omega) (l ++ [v]) c (by rw [hlen]; omega)
       rw [hm] at this
       cases this
    ·rfl
theorem seaG_last {m : Nat} {may : List Nat → Bool} : ∀ (k : Nat) (l : List Nat), 0 < k → seaG m may freM k l = seaG m may may k l := by
 intro k
 induction k with
 | zero => intro l h; omega
 | succ k ih =>
   intro l _
   unfold seaG
   refine fs_congr fun v _ => ?_
   cases hok : okG may l v
   ·rfl
   ·rw [if_pos rfl, if_pos rfl]
    by_cases hk : 0 < k
    ·exact ih _ hk
    ·obtain rfl : k = 0 := by omega
     have hm : may (l ++ [v]) = true := by
      by_cases hv : v ∈ l
      ·rw [okG_in hv] at hok; cases hok
      ·rw [okG_out hv] at hok; exact hok
     show (if _ then _ else _) = (if _ then _ else _)
     rw [hm]
def seaN (m : Nat) (hol : List Nat → Bool) : Nat → List Nat → Option (List Nat)
 | 0, l => if hol l = true then some l else none
 | k + 1, l => (List.range m).findSome? fun v => seaN m hol k (l ++ [v])
theorem seaN_sound {m : Nat} {hol : List Nat → Bool} : ∀ (k : Nat) (l o : List Nat), seaN m hol k l = some o → hol o = true ∧ l <+: o := by
 intro k
 induction k with
 | zero =>
   intro l o h
   unfold seaN at h
   split at h
   ·rename_i hh
    obtain rfl := Option.some.inj h
    exact ⟨hh, List.prefix_refl _⟩
   ·cases h
 | succ k ih =>
   intro l o h
   unfold seaN at h
   obtain ⟨v, _, hv⟩ := List.exists_of_findSome?_eq_some h
   obtain ⟨a, c⟩ := ih _ _ hv
   exact ⟨a, (List.prefix_append l [v]).trans c⟩
theorem seaN_eq {m : Nat} {hol : List Nat → Bool} (hd : ∀ l, hol l = true → l.Nodup) : ∀ (k : Nat) (l : List Nat), seaN m hol k l = seaG m freM hol k l := by
 intro k
 induction k with
 | zero => intro l; rfl
 | succ k ih =>
   intro l
   unfold seaN seaG
   refine fs_congr fun v _ => ?_
   by_cases hv : v ∈ l
   ·rw [okG_in hv, if_neg (by simp)]
    cases hf : seaN m hol k (l ++ [v]) with
    | none => rfl
    | some o =>
      obtain ⟨a, c⟩ := seaN_sound _ _ _ hf
      have hn := (hd o a).sublist c.sublist
      rw [List.nodup_append] at hn
      exact absurd rfl (hn.2.2 v hv v (by simp))
   ·rw [okG_out hv, if_pos rfl, ih]
theorem fs_mul {α : Type} (f : Nat → Option α) (b : Nat) : ∀ a : Nat, (List.range (a * b)).findSome? f = (List.range a).findSome? fun i => (List.range b).findSome? fun j => f (i * b + j) := by
 intro a
 induction a with
 | zero => rw [Nat.zero_mul]; rfl
 | succ a ih =>
   rw [Nat.succ_mul, List.range_add, List.findSome?_append, ih, List.range_succ, List.findSome?_append, List.findSome?_map]
   congr 1
   rw [List.findSome?_cons, List.findSome?_nil]
   show _ = match (List.range b).findSome? (fun j => f (a * b + j)) with | some b => some b | none => none
   have : (f ∘ fun x => a * b + x) = fun j => f (a * b + j) := rfl
   rw [this]
   cases (List.range b).findSome? (fun j => f (a * b + j)) <;> rfl
def dig4 (m q : Nat) : List Nat := [q / (m * m * m), q / (m * m) % m, q / m % m, q % m]
def atF (m : Nat) (hol : List Nat → Bool) (q : Nat) : Option (List Nat) := if hol (dig4 m q) = true then some (dig4 m q) else none
def fouO (m : Nat) (hol : List Nat → Bool) : Option (List Nat) := (List.range (m * m * m * m)).findSome? (atF m hol)
theorem atF_no {m q : Nat} {hol : List Nat → Bool} (h : hol (dig4 m q) = false) : atF m hol q = none := by unfold atF; rw [h]; rfl
theorem atF_yes {m q : Nat} {hol : List Nat → Bool} (h : hol (dig4 m q) = true) : atF m hol q = some (dig4 m q) := by unfold atF; rw [h]; rfl
theorem dig4_eq {m a b c d : Nat} (hb : b < m) (hc : c < m) (hd : d < m) : dig4 m (((a * m + b) * m + c) * m + d) = [a, b, c, d] := by
 have hm : 0 < m := by omega
 have e1 : ∀ u v : Nat, v < m → (u * m + v) / m = u := fun u v hv => by rw [Nat.add_comm, Nat.add_mul_div_right _ _ hm, Nat.div_eq_of_lt hv, Nat.zero_add]
 have e2 : ∀ u v : Nat, v < m → (u * m + v) % m = v := fun u v hv => by rw [Nat.add_comm, Nat.add_mul_mod_self_right, Nat.mod_eq_of_lt hv]
 unfold dig4
 rw [← Nat.div_div_eq_div_mul, ← Nat.div_div_eq_div_mul, e1 _ _ hd, e1 _ _ hc, e1 _ _ hb, e2 _ _ hd, e2 _ _ hc, e2 _ _ hb]
theorem fouO_eq {m : Nat} {hol : List Nat → Bool} (hd : ∀ l, hol l = true → l.Nodup) : fouO m hol = seaG m freM hol 4 [] := by
 rw [← seaN_eq hd]
 unfold fouO
 rw [fs_mul, fs_mul, fs_mul]
 show _ = (List.range m).findSome? fun a => (List.range m).findSome? fun b => (List.range m).findSome? fun c => (List.range m).findSome? fun d => seaN m hol 0 [a, b, c, d]
 refine fs_congr fun a _ => fs_congr fun b hb => fs_congr fun c hc => fs_congr fun d hd => ?_
 have e := dig4_eq (a := a) (List.mem_range.1 hb) (List.mem_range.1 hc) (List.mem_range.1 hd)
 unfold atF
 rw [e]
 rfl
def latO (n0 s : Nat) (f : Nat → Option (List Nat)) (n : Nat) : Option (List Nat) := if n0 ≤ n ∧ (n - n0) % s = 0 then f n else none
def ltO (n0 s : Nat) (f : Nat → Option (List Nat)) (m : Nat) : Option (List Nat) := (List.range (m + 1)).findSome? (latO n0 s f)
section
variable {n0 s n m : Nat} {f : Nat → Option (List Nat)}
theorem latO_at (h : n0 ≤ n) (hs : (n - n0) % s = 0) : latO n0 s f n = f n := by unfold latO; rw [if_pos ⟨h, hs⟩]
theorem latO_low (h : n < n0) : latO n0 s f n = none := by unfold latO; rw [if_neg (fun hh => by omega)]
theorem latO_off (hs : ¬ (n - n0) % s = 0) : latO n0 s f n = none := by unfold latO; rw [if_neg (fun hh => hs hh.2)]
theorem ltO_some {o : List Nat} (hn : n ≤ m) (h : latO n0 s f n = some o) (hmin : ∀ u, u < n → latO n0 s f u = none) : ltO n0 s f m = some o := range_some (by omega) h hmin
theorem ltO_none (h : ∀ u, u ≤ m → latO n0 s f u = none) : ltO n0 s f m = none := range_none fun u hu => h u (by omega)
end
/-! The obstacles, over lists of vertices. -/
abbrev zl (l : List Nat) : List Int := l.map fun v : Nat => (v : Int)
theorem zl_getD (l : List Nat) (i : Nat) : (zl l).getD i 0 = ((l.getD i 0 : Nat) : Int) := by
 simp only [zl, List.getD_eq_getElem?_getD, List.getElem?_map]
 cases l[i]? <;> rfl
theorem zl_len (l : List Nat) : (zl l).length = l.length := List.length_map ..
section
variable (r : Nat → Nat) (m : Nat)
noncomputable def hoR (l : List Nat) : Bool := hoB (m : Int) m (fun v => (r v : Int)) (zl l)
noncomputable def teR (l : List Nat) : Bool := teB (m : Int) m (fun v => (r v : Int)) (zl l)
noncomputable def cwR (l : List Nat) : Bool := clB (m : Int) m (fun v => (r v : Int)) (zl l)
noncomputable def snR (l : List Nat) : Bool := snB (m : Int) m (fun v => (r v : Int)) (zl l)
noncomputable def ocR (l : List Nat) : Bool := ocB (m : Int) m (fun v => (r v : Int)) (zl l)
noncomputable def ajR (J : Nat → Nat → Bool) (l : List Nat) : Bool := ajB (m : Int) m (fun v => (r v : Int)) (zl l) J
noncomputable def thR (l : List Nat) : Bool := decide (l.length = 4) && (teR r m l || (hoR r m l || ptB r m l))
end
section
variable {r : Nat → Nat} {m : Nat} {J K : Nat → Nat → Bool} {l a : List Nat}
theorem ajR_parts (h : ajR r m J l = true) : vrB (m : Int) m (fun v => (r v : Int)) (zl l) = true ∧ ∀ k, k < l.length → ∀ i, i < k → edZ (fun v => (r v : Int)) ((l.getD i 0 : Nat) : Int) ((l.getD k 0 : Nat) : Int) = J i k := by
 unfold ajR ajB at h
 rw [Bool.and_eq_true, List.all_eq_true] at h
 refine ⟨h.1, fun k hk i hi => ?_⟩
 have h1 := h.2 k (List.mem_range.2 (by rw [zl_len]; exact hk))
 rw [List.all_eq_true] at h1
 have h2 := h1 i (List.mem_range.2 hi)
 rw [zl_getD, zl_getD] at h2
 simpa using h2
theorem ajR_nodup (h : ajR r m J l = true) : l.Nodup := nodup_cast (vrB_parts (ajR_parts h).1).2.1
theorem pre_getD (h : a <+: l) {i : Nat} (hi : i < a.length) : a.getD i 0 = l.getD i 0 := by
 obtain ⟨t, rfl⟩ := h
 rw [List.getD_eq_getElem?_getD, List.getD_eq_getElem?_getD, List.getElem?_append_left hi]
theorem vrR_pre (h : vrB (m : Int) m (fun v => (r v : Int)) (zl l) = true) (ha : a <+: l) : vrB (m : Int) m (fun v => (r v : Int)) (zl a) = true := by
 obtain ⟨h1, h2, h3⟩ := vrB_parts h
 rw [vrB_ok h1]
 have hs : (zl a).Sublist (zl l) := ha.sublist.map _
 exact vzB_yes ⟨h2.sublist hs, fun v hv => h3 v (hs.subset hv)⟩
theorem ajR_pre (h : ajR r m J l = true) (ha : a <+: l) (hJ : ∀ k, k < a.length → ∀ i, i < k → J i k = K i k) : ajR r m K a = true := by
 obtain ⟨h1, h2⟩ := ajR_parts h
 refine ajB_yes (vrR_pre h1 ha) fun k hk i hi => ?_
 rw [zl_len] at hk
 rw [zl_getD, zl_getD, pre_getD ha (by omega), pre_getD ha hk, h2 k (Nat.lt_of_lt_of_le hk ha.length_le) i hi, hJ k hk i hi]
theorem hoR_parts (h : hoR r m l = true) : 4 ≤ l.length ∧ ajR r m (holeJ l.length) l = true := by
 unfold hoR hoB at h
 rw [Bool.and_eq_true, decide_eq_true_eq, zl_len] at h
 exact h
theorem hoR_pre (h : hoR r m l = true) (ha : a <+: l) (h0 : 0 < a.length) (hl : a.length < l.length) : ptB r m a = true := by
 unfold ptB ipB
 rw [Bool.and_eq_true, decide_eq_true_eq]
 refine ⟨by rw [List.length_map]; exact h0, ajR_pre (hoR_parts h).2 ha fun k hk i hi => ?_⟩
 unfold holeJ pathJ
 have : (k + 1 == l.length) = false := by simp; omega
 rw [this, Bool.and_false, Bool.or_false]
theorem hoR_nodup (h : hoR r m l = true) : l.Nodup := ajR_nodup (hoR_parts h).2
theorem teR_parts (h : teR r m l = true) : l.length = 4 ∧ ajR r m twoJ l = true := by
 unfold teR teB at h
 rw [Bool.and_eq_true, decide_eq_true_eq, zl_len] at h
 exact h
theorem teR_nodup (h : teR r m l = true) : l.Nodup := ajR_nodup (teR_parts h).2
theorem cwR_parts (h : cwR r m l = true) : l.length = 4 ∧ ajR r m clawJ l = true := by
 unfold cwR clB at h
 rw [Bool.and_eq_true, decide_eq_true_eq, zl_len] at h
 exact h
theorem cwR_nodup (h : cwR r m l = true) : l.Nodup := ajR_nodup (cwR_parts h).2
theorem snR_parts (h : snR r m l = true) : l.length = 6 ∧ ajR r m sunJ l = true := by
 unfold snR snB at h
 rw [Bool.and_eq_true, decide_eq_true_eq, zl_len] at h
 exact h
theorem ptB_nodup (h : ptB r m l = true) : l.Nodup := Classical.byContradiction fun hn => by rw [ptB_dup hn] at h; cases h
theorem thR_nodup (h : thR r m l = true) : l.Nodup := by
 unfold thR at h
 rw [Bool.and_eq_true, Bool.or_eq_true, Bool.or_eq_true] at h
 rcases h.2 with h | h | h
 ·exact teR_nodup h
 ·exact hoR_nodup h
 ·exact ptB_nodup h
theorem ocR_parts (h : ocR r m l = true) : vrB (m : Int) m (fun v => (r v : Int)) (zl l) = true ∧ ∀ i, i < l.length → edZ (fun v => (r v : Int)) ((l.getD i 0 : Nat) : Int) ((l.getD ((i + 1) % l.length) 0 : Nat) : Int) = true := by
 unfold ocR ocB at h
 rw [Bool.and_eq_true, Bool.and_eq_true, Bool.and_eq_true, List.all_eq_true] at h
 refine ⟨h.2.1, fun i hi => ?_⟩
 have h2 := h.2.2 i (List.mem_range.2 (by rw [zl_len]; exact hi))
 rw [zl_getD, zl_getD, zl_len] at h2
 exact h2
/-! The reference's tests on the way. -/
noncomputable def mayH (r : Nat → Nat) (m n : Nat) (a : List Nat) : Bool := ptB r m a || (decide (a.length = n) && hoR r m a)
noncomputable def mayI (r : Nat → Nat) (m n : Nat) (a : List Nat) : Bool := decide (a.length = n) || ptB r m a
noncomputable def mayC (r : Nat → Nat) (a : List Nat) : Bool := decide (a.length ≤ 1) || edZ (fun v => (r v : Int)) ((a.getD (a.length - 2) 0 : Nat) : Int) ((a.getD (a.length - 1) 0 : Nat) : Int)
noncomputable def mayS (r : Nat → Nat) (a : List Nat) : Bool := decide (a.length ≤ 1) || (decide (4 ≤ a.length) || edZ (fun v => (r v : Int)) ((a.getD 0 0 : Nat) : Int) ((a.getD (a.length - 1) 0 : Nat) : Int))
noncomputable def hoF (r : Nat → Nat) (m n : Nat) : Option (List Nat) := seaG m freM (hoR r m) n []
noncomputable def ocF (r : Nat → Nat) (m n : Nat) : Option (List Nat) := seaG m freM (ocR r m) n []
noncomputable def snO (r : Nat → Nat) (m : Nat) : Option (List Nat) := seaG m freM (snR r m) 6 []
noncomputable def teO (r : Nat → Nat) (m : Nat) : Option (List Nat) := seaG m freM (teR r m) 4 []
noncomputable def cwO (r : Nat → Nat) (m : Nat) : Option (List Nat) := seaG m freM (cwR r m) 4 []
noncomputable def fhO (r : Nat → Nat) (m : Nat) : Option (List Nat) := seaG m freM (thR r m) 4 []
theorem hoF_s (n : Nat) : seaG m (mayH r m n) (hoR r m) n [] = hoF r m n := by
 refine seaG_free n [] fun o ho hl a ha h0 => ?_
 unfold mayH
 rw [List.length_nil, Nat.zero_add] at hl
 by_cases hn : a.length = n
 ·have e : a = o := List.IsPrefix.eq_of_length ha (by omega)
  rw [e, ho, hl, decide_eq_true rfl]
  simp
 ·rw [hoR_pre ho ha h0 (by have := ha.length_le; omega)]
  rfl
theorem hoF_i (n : Nat) : seaG m (mayI r m n) (hoR r m) n [] = hoF r m n := by
 refine seaG_free n [] fun o ho hl a ha h0 => ?_
 unfold mayI
 rw [List.length_nil, Nat.zero_add] at hl
 by_cases hn : a.length = n
 ·rw [decide_eq_true hn]; rfl
 ·rw [hoR_pre ho ha h0 (by have := ha.length_le; omega), Bool.or_true]
theorem ocF_s (n : Nat) : seaG m (mayC r) (ocR r m) n [] = ocF r m n := by
 refine seaG_free n [] fun o ho hl a ha h0 => ?_
 unfold mayC
 by_cases hn : a.length ≤ 1
 ·rw [decide_eq_true hn]; rfl
 ·have hle := ha.length_le
  have := (ocR_parts ho).2 (a.length - 2) (by omega)
  rw [Nat.mod_eq_of_lt (by omega), show a.length - 2 + 1 = a.length - 1 by omega] at this
  rw [pre_getD ha (by omega), pre_getD ha (by omega), this, Bool.or_true]
theorem snO_s : seaG m (mayS r) (snR r m) 6 [] = snO r m := by
 refine seaG_free 6 [] fun o ho hl a ha h0 => ?_
 unfold mayS
 by_cases hn : a.length ≤ 1
 ·rw [decide_eq_true hn]; rfl
 by_cases h4 : 4 ≤ a.length
 ·rw [decide_eq_true h4, Bool.true_or, Bool.or_true]
 ·have hle := ha.length_le
  have := (ajR_parts (snR_parts ho).2).2 (a.length - 1) (by omega) 0 (by omega)
  rw [pre_getD ha (by omega), pre_getD ha (by omega), this]
  have h3 : a.length - 1 < 3 := by omega
  unfold sunJ
  rw [decide_eq_true h3]
  simp
theorem snO_i : seaG m (ajR r m sunJ) freM 6 [] = snO r m := by
 rw [seaG_last 6 [] (by omega)]
 unfold snO
 have e : ∀ k l, l.length + k = 6 → seaG m freM (ajR r m sunJ) k l = seaG m freM (snR r m) k l := by
  intro k
  induction k with
  | zero =>
    intro l hl
    have : snR r m l = ajR r m sunJ l := by unfold snR snB; rw [decide_eq_true (by rw [zl_len]; omega)]; rfl
    unfold seaG
    rw [this]
  | succ k ih =>
    intro l hl
    unfold seaG
    refine fs_congr fun v _ => ?_
    rw [ih _ (by rw [List.length_append, List.length_singleton]; omega)]
 rw [← e 6 [] rfl]
 exact seaG_free 6 [] fun o ho _ a ha _ => ajR_pre ho ha fun _ _ _ _ => rfl
theorem teO_s : fouO m (teR r m) = teO r m := fouO_eq fun _ => teR_nodup
theorem cwO_s : fouO m (cwR r m) = cwO r m := fouO_eq fun _ => cwR_nodup
theorem fhO_s : fouO m (thR r m) = fhO r m := fouO_eq fun _ => thR_nodup
end
noncomputable def holeO (r : Nat → Nat) (m : Nat) : Option (List Nat) := ltO 4 1 (hoF r m) m
noncomputable def oddhO (r : Nat → Nat) (m : Nat) : Option (List Nat) := ltO 5 2 (hoF r m) m
noncomputable def oddcO (r : Nat → Nat) (m : Nat) : Option (List Nat) := ltO 3 2 (ocF r m) m
end Go.Proofs.YtfabbohijhjpcaaGreatDoor

/-
-/
namespace Go.Proofs.YtfabbohijhjpcaaGreatDoor
open Go.RowKit
section
variable {A : Option Addr} {m c : Nat} {r : Nat → Nat}
theorem IsHole_v {w : World} (h : GV w A m c r) {Al : Option Addr} {cl : Nat} {l : List Nat} (hl : LN w Al cl l) (hlen : l.length ≤ 7) :
 Calls Tryz.prog 205 #[.agg #[.int .i64 m, .slice A m c], .slice Al l.length cl] w fun e w' => e = .returned (.bool (hoR r m l)) ∧ Below w.heap.size w w' :=
 IsHole_i m A m c _ Al l.length cl _ w h.ga hl.li (by have := h.vg.n7; omega) (by omega)
set_option maxRecDepth 100000 in
set_option maxHeartbeats 1600000 in
theorem HolM {q p n : Nat} {Al : Option Addr} {cl : Nat} {l : List Nat} {w : World} (h : GBox w q A m c r) (hp : w.cell? ⟨p, 0, none⟩ = some (.int .i64 n)) (hl : LN w Al cl l) (hlen : l.length ≤ 7) :
 Calls Tryz.prog 201 #[.slice Al l.length cl, .pointer (some ⟨p, 0, none⟩), .pointer (some ⟨q, 0, none⟩)] w fun e w' => e = .returned (.bool (mayI r m n l)) ∧ Below w.heap.size w w' := by
 have KP := Lib.hid (IsInducedPath_v h.gv hl hlen)
 have e0 := h.c0
 have e1 := h.c1
 have HF : Hid (From w w) := From.refl w
 clear h hl
 by_cases hn : l.length = n
 ·have Hv : Hid (mayI r m n l = true) := by unfold mayI; rw [decide_eq_true hn]; rfl
  have heq : ((l.length : Int) == (n : Int)) = true := by simp; omega
  have heq2 : (l.length = n) = True := by simp [hn]
  clear hn
  go_enter Tryz.func201, Tryz.ntmps201
  go_wp2
  go_ret
  exact ⟨by rw [Hv.out]; rfl, HF.out.below⟩
 ·have Hv : Hid (mayI r m n l = ptB r m l) := by unfold mayI; rw [decide_eq_false hn]; rfl
  have heq : ((l.length : Int) == (n : Int)) = false := by simp; omega
  have heq2 : (l.length = n) = False := by simp [hn]
  clear hn
  go_enter Tryz.func201, Tryz.ntmps201
  go_wp2_with fail
  refine KP.out.mono ?_
  rintro e w1 ⟨rfl, hb1⟩
  replace HF := Lib.hid (HF.out.keep hb1)
  clear hb1
  go_wp2
  go_ret
  exact ⟨by rw [Hv.out]; rfl, HF.out.below⟩
set_option maxRecDepth 100000 in
set_option maxHeartbeats 1600000 in
theorem HolH {q : Nat} {Al : Option Addr} {cl : Nat} {l : List Nat} {w : World} (h : GBox w q A m c r) (hl : LN w Al cl l) (hlen : l.length ≤ 7) :
 Calls Tryz.prog 204 #[.slice Al l.length cl, .pointer (some ⟨q, 0, none⟩)] w fun e w' => e = .returned (.bool (hoR r m l)) ∧ Below w.heap.size w w' := by
 have KP := Lib.hid (IsHole_v h.gv hl hlen)
 have e0 := h.c0
 have e1 := h.c1
 have HF : Hid (From w w) := From.refl w
 clear h hl
 go_enter Tryz.func204, Tryz.ntmps204
 go_wp2_with fail
 refine KP.out.mono ?_
 rintro e w1 ⟨rfl, hb1⟩
 replace HF := Lib.hid (HF.out.keep hb1)
 clear hb1
 go_wp2
 go_ret
 exact ⟨rfl, HF.out.below⟩
end
end Go.Proofs.YtfabbohijhjpcaaGreatDoor
