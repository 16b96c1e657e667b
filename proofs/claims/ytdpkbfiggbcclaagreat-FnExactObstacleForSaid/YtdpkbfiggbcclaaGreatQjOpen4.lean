/-
  Several texts in one: words for memory, plain laws and contracts that the later texts lean on.
-/
import Derived.Test.YtdpkbfiggbcclaaGreatQjObfI
import Derived.Test.YtdpkbfiggbcclaaGreatQjObfS
import Derived.Test.YtdpkbfiggbcclaaGreatQjGL
import Derived.Test.YtdpkbfiggbcclaaGreatQjAntS
import Derived.ChangeMaps5
/-
  The contracts of ObstacleFor in the words of the law.
-/
namespace Go.Proofs.YtdpkbfiggbcclaaGreat
open Go.RowKit

section
variable {r : Nat → Nat} {m n k : Nat} {l : List Nat} {may hol : List Nat → Bool}
theorem sea_len7 (h : seaG m may hol k [] = some l) : l.length = k := by
  have := (seaG_sound k [] l h).2.1
  simpa using this
theorem ltO_len {n0 s : Nat} {f : Nat → Option (List Nat)} (hf : ∀ n l, f n = some l → l.length = n) (h : ltO n0 s f m = some l) : l.length ≤ m := by
  unfold ltO at h
  obtain ⟨v, hv, hh⟩ := List.exists_of_findSome?_eq_some h
  unfold latO at hh
  split at hh
  · rw [hf v l hh]
    have := List.mem_range.1 hv
    omega
  · cases hh
theorem ho_len (h : holeO r m = some l) : l.length ≤ m := ltO_len (fun _ _ h => sea_len7 h) h
theorem oh_len (h : oddhO r m = some l) : l.length ≤ m := ltO_len (fun _ _ h => sea_len7 h) h
theorem oc_len (h : oddcO r m = some l) : l.length ≤ m := ltO_len (fun _ _ h => sea_len7 h) h
theorem tr_len (h : triO r m = some l) : l.length = 3 := by
  unfold triO at h
  obtain ⟨a, _, h⟩ := List.exists_of_findSome?_eq_some h
  unfold triA at h
  obtain ⟨b, _, h⟩ := List.exists_of_findSome?_eq_some h
  unfold triB at h
  obtain ⟨c, _, h⟩ := List.exists_of_findSome?_eq_some h
  unfold triC at h
  split at h
  · obtain rfl := Option.some.inj h
    rfl
  · cases h
theorem or_len {o p : Option (List Nat)} (h1 : ∀ l, o = some l → l.length ≤ 7) (h2 : ∀ l, p = some l → l.length ≤ 7) : ∀ l, o.or p = some l → l.length ≤ 7 := by
  intro l h
  cases o with
  | none => exact h2 l h
  | some a => exact h1 l h
theorem gO_len {sz : Int} {x : Nat → Int} {f : (Nat → Nat) → Nat → Option (List Nat)} (hf : ∀ r m, m ≤ 7 → ∀ l, f r m = some l → l.length ≤ 7) : ((gO sz m x f).getD []).length ≤ 7 := by
  cases ho : okB sz m x
  · rw [gO_no ho]; simp
  · rw [gO_yes ho]
    obtain ⟨_, _, vg, _⟩ := okB_ok ho
    cases hh : f (rw_ x) m with
    | none => simp
    | some l => exact hf _ _ vg.n7 l hh
theorem io_len (hm : m ≤ 7) : ∀ l, ioO r m = some l → l.length ≤ 7 := or_len (fun _ h => Nat.le_trans (ho_len h) hm) (fun _ h => by rw [tr_len h]; omega)
theorem obO_len (sz : Int) (m : Nat) (x : Nat → Int) (s : List UInt8) : ((obO sz m x s).getD []).length ≤ 7 := by
  have e4 : ∀ {mm : Nat} {l : List Nat} {mayy holl : List Nat → Bool}, seaG mm mayy holl 4 [] = some l → l.length ≤ 7 := fun h => by rw [sea_len7 h]; omega
  unfold obO
  split; · exact gO_len fun r m hm l h => Nat.le_trans (ho_len h) hm
  split; · exact gO_len fun r m hm l h => io_len hm l h
  split; · exact gO_len fun r m hm l h => or_len (fun _ h => e4 h) (io_len hm) l h
  split
  · refine gO_len fun r m hm l h => ?_
    unfold p4O ptO at h
    split at h
    · exact e4 h
    · cases h
  split; · exact gO_len fun r m hm l h => or_len (fun _ h => e4 h) (fun _ h => Nat.le_trans (ho_len h) hm) l h
  split; · exact gO_len fun r m hm l h => e4 h
  split; · exact gO_len fun r m hm l h => Nat.le_trans (oc_len h) hm
  split; · exact gO_len fun r m hm l h => or_len (fun _ h => Nat.le_trans (ho_len h) hm) (fun _ h => by rw [sea_len7 h]; omega) l h
  split; · exact gO_len fun r m hm l h => or_len (fun _ h => Nat.le_trans (oh_len h) hm) (fun _ h => Nat.le_trans (oh_len h) hm) l h
  simp
end
section
variable (s1 : Int) (A1 : Option Addr) (m1 c1 : Nat) (x1 : Nat → Int) (t2 : ByteArray) (w : World) (B : Nat)
theorem ObstacleFor_sL (h1 : Rd w B A1 m1 c1 x1) (hB : B ≤ w.heap.size) (hm1 : m1 ≤ 1048576) (_ : t2.size ≤ 1048576) :
    Calls Tryz.prog 29 #[.agg #[.int .i64 s1, .slice A1 m1 c1], .string t2] w fun e w' => ∃ A' c', e = .returned (.tuple #[.slice A' ((obO s1 m1 x1 t2.toList).getD []).length c', .bool (obO s1 m1 x1 t2.toList).isSome]) ∧ Own w' w.heap.size w'.heap.size 3 1 A' ((obO s1 m1 x1 t2.toList).getD []).length c' (fun j => .int .i64 ((((obO s1 m1 x1 t2.toList).getD []).getD j 0 : Nat) : Int)) ∧ Below w.heap.size w w' :=
  (ObstacleFor_s s1 A1 m1 c1 x1 t2 w ⟨h1.keep (Below.refl _ _) hB⟩ hm1).mono fun _ _ ⟨A', c', h1, h2, h3⟩ => ⟨A', c', h1, h2.own, h3⟩
theorem ObstacleFor_iL (h1 : Rd w B A1 m1 c1 x1) (hB : B ≤ w.heap.size) (hm1 : m1 ≤ 1048576) (_ : t2.size ≤ 1048576) :
    Calls Tryz.prog 30 #[.agg #[.int .i64 s1, .slice A1 m1 c1], .string t2] w fun e w' => ∃ A' c', e = .returned (.tuple #[.slice A' ((obO s1 m1 x1 t2.toList).getD []).length c', .bool (obO s1 m1 x1 t2.toList).isSome]) ∧ Own w' w.heap.size w'.heap.size 3 1 A' ((obO s1 m1 x1 t2.toList).getD []).length c' (fun j => .int .i64 ((((obO s1 m1 x1 t2.toList).getD []).getD j 0 : Nat) : Int)) ∧ Below w.heap.size w w' :=
  (ObstacleFor_i s1 A1 m1 c1 x1 t2 w ⟨h1.keep (Below.refl _ _) hB⟩ hm1).mono fun _ _ ⟨A', c', h1, h2, h3⟩ => ⟨A', c', h1, h2.own, h3⟩
end
end Go.Proofs.YtdpkbfiggbcclaaGreat

/-
  How arguments read: claims; strings.
-/
namespace Go.Proofs.YtdpkbfiggbcclaaGreat
open Go.ChangeShapes Go.WideShapes Go.ChangeAt Go.RowKit Go.Deep

section
variable {H : Type} {enc : TypeId × Value → H} {P : Program} {w : World} {base : Nat} {spare : Nat → Bool} {held : Bool}
end

section
variable {H : Type} {enc : TypeId × Value → H} {w : World} {base : Nat} {spare : Nat → Bool} {held : Bool}
set_option maxRecDepth 100000 in
theorem open_string_arg {r : Reach} {b0 : Nat} {vv : Value} {d : DataW H} {p : List MemPlace} (hv : Value.okWide Tryz.prog w r b0 9 vv)
    (h : DataW.Trod enc Tryz.prog w base spare held 9 vv d p) : ∃ t : ByteArray, vv = .string t ∧ t.size ≤ maxLen := by
  obtain ⟨t, e, _, _, hl⟩ := Go.ChangeMaps.open_string Tryz.underlying9 hv h
  exact ⟨t, e, hl⟩
end
end Go.Proofs.YtdpkbfiggbcclaaGreat
