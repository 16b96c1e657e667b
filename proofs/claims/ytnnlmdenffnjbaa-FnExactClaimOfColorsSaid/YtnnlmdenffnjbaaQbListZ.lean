/-
  Contracts: lists of integers that may be anything: is a number in a list? are they different vertices? are they an order? The program's tests.
-/
import Derived.Test.YtnnlmdenffnjbaaQbSet2I
import Derived.Test.YtnnlmdenffnjbaaQbGC
namespace Go.Proofs.Ytnnlmdenffnjbaa
open Go.RowKit

/-- A slice that reads as a list of integers. -/
structure LI (w : World) (A : Option Addr) (n c : Nat) (l : List Int) : Prop where
  len : n = l.length
  rd : Rd w w.heap.size A n c (fun j => l.getD j 0)
theorem LI.keep {w w' : World} {A : Option Addr} {n c : Nat} {l : List Int} (h : LI w A n c l) (hb : Below w.heap.size w w') : LI w' A n c l := ⟨h.len, h.rd.keep hb hb.size⟩
theorem LI.drew {w : World} {A : Option Addr} {n c : Nat} {l : List Int} (h : LI w A n c l) : LI w.drew A n c l := ⟨h.len, h.rd⟩
theorem LI.of {w : World} {B : Nat} {A : Option Addr} {n c : Nat} {x : Nat → Int} (h : Rd w B A n c x) (hB : B ≤ w.heap.size) : LI w A n c ((List.range n).map x) :=
  ⟨by simp, (h.keep (Below.refl _ _) hB).congr (fun k hk => by simp [List.getD, hk])⟩
theorem LI.addr {w : World} {A : Option Addr} {n c : Nat} {l : List Int} (h : LI w A n c l) (hn : 0 < n) : ∃ b o, A = some ⟨b, o, none⟩ := by
  obtain ⟨b, o, e, _⟩ := h.rd.pos hn
  exact ⟨b, o, e⟩
theorem LI.at {w : World} {b o n c j : Nat} {l : List Int} (h : LI w (some ⟨b, o, none⟩) n c l) (hj : j < n) : w.cell? ⟨b, o + j, none⟩ = some (.int .i64 (l.getD j 0)) := by
  obtain ⟨b', o', e, _, hc⟩ := h.rd.pos (by omega)
  simp only [Option.some.injEq, Addr.mk.injEq, and_true] at e
  obtain ⟨rfl, rfl⟩ := e
  exact hc j hj
theorem LI.take {w : World} {A : Option Addr} {n c k : Nat} {l : List Int} (h : LI w A n c l) (hk : k ≤ n) : LI w A k c (l.take k) :=
  ⟨by rw [List.length_take, ← h.len]; omega, by have := h.rd.1; omega, fun hn => by
    obtain ⟨b, o, e, hb, hc⟩ := h.rd.2 (by omega)
    refine ⟨b, o, e, hb, fun j hj => ?_⟩
    rw [hc j (by omega)]
    simp [List.getD, hj]⟩
theorem nodup_lenz : ∀ {m : Nat} {l : List Nat}, l.Nodup → (∀ v ∈ l, v < m) → l.length ≤ m := by
  intro m
  induction m with
  | zero =>
    intro l _ h
    cases l with
    | nil => exact Nat.le_refl _
    | cons a l => exact absurd (h a (by simp)) (by omega)
  | succ m ih =>
    intro l hn h
    by_cases hm : m ∈ l
    · have h1 := ih (hn.erase m) (fun v hv => by
        have := (hn.mem_erase_iff).1 hv
        have := h v this.2
        omega)
      rw [List.length_erase_of_mem hm] at h1
      omega
    · have := ih hn (fun v hv => by
        have h1 := h v hv
        have : v ≠ m := fun e => hm (e ▸ hv)
        omega)
      omega
theorem map_nodup {l : List Int} (hn : l.Nodup) (h : ∀ v ∈ l, 0 ≤ v) : (l.map Int.toNat).Nodup := by
  induction l with
  | nil => exact List.nodup_nil
  | cons a l ih =>
    rw [List.nodup_cons] at hn
    rw [List.map_cons, List.nodup_cons]
    refine ⟨fun hm => ?_, ih hn.2 (fun v hv => h v (by simp [hv]))⟩
    obtain ⟨b, hb, e⟩ := List.mem_map.1 hm
    have h1 := h b (by simp [hb])
    have h2 := h a (by simp)
    have : a = b := by omega
    exact hn.1 (this ▸ hb)
/-- Different numbers from 0 up to m. -/
def VZ (m : Nat) (l : List Int) : Prop := l.Nodup ∧ ∀ v ∈ l, 0 ≤ v ∧ v < m
theorem nodupz_take {l : List Int} {k : Nat} (hk : k < l.length) (h : (l.take k).Nodup) (hn : l.getD k 0 ∉ l.take k) : (l.take (k + 1)).Nodup := by
  have e : l.getD k 0 = l[k] := by simp [List.getD, hk]
  rw [e] at hn
  rw [List.take_succ_eq_append_getElem hk, List.nodup_append]
  exact ⟨h, by simp, fun a ha b hb e => by rw [List.mem_singleton] at hb; subst hb; subst e; exact hn ha⟩
theorem VZ.len {m : Nat} {l : List Int} (h : VZ m l) : l.length ≤ m := by
  have e : (l.map Int.toNat).length = l.length := by simp
  rw [← e]
  refine nodup_lenz ?_ ?_
  · exact map_nodup h.1 (fun v hv => (h.2 v hv).1)
  · intro v hv
    obtain ⟨u, hu, rfl⟩ := List.mem_map.1 hv
    have := h.2 u hu; omega

end Go.Proofs.Ytnnlmdenffnjbaa
