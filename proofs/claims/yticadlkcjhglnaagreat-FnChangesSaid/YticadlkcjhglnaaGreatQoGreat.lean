/-
-/
import Derived.Test.YticadlkcjhglnaaGreatQoGA
import Derived.JoinedOf
namespace Go.Proofs.YticadlkcjhglnaaGreat
open Go.RowKit
def leadsAt (P : Program) (i : FuncId) : List FuncId := (P.funcs[i]?).elim [] P.leadsTo
def wtC (P : Program) (seen : List FuncId) : Nat := (((List.range P.funcs.size).filter fun i => !seen.contains i).map fun i => (leadsAt P i).length + 1).sum
theorem sum_part (c : Nat → Nat) (seen : List Nat) (f : Nat) (hf : seen.contains f = false) : ∀ L : List Nat, L.Nodup →
 ((L.filter fun i => !seen.contains i).map c).sum = ((L.filter fun i => !(f :: seen).contains i).map c).sum + (if f ∈ L then c f else 0) := by
 intro L;induction L with
 | nil => intro _; rfl
 | cons a L ih =>
   intro hn;rw [List.nodup_cons] at hn;have h := ih hn.2;by_cases e : a = f
   ·subst e;rw [if_neg hn.1] at h;rw [if_pos List.mem_cons_self, List.filter_cons_of_pos (by rw [hf]; rfl), List.filter_cons_of_neg (by simp)];rw [List.map_cons, List.sum_cons, h];omega
   ·have h1 : (f :: seen).contains a = seen.contains a := by
     rw [List.contains_cons];have : (a == f) = false := by simpa using e
     rw [this, Bool.false_or]
    have h2 : (f ∈ a :: L) = (f ∈ L) := by
     rw [List.mem_cons];exact propext ⟨fun h => h.resolve_left (fun h => e h.symm), .inr⟩
    simp only [h2];cases hs : seen.contains a
    ·rw [List.filter_cons_of_pos (by rw [hs]; rfl), List.filter_cons_of_pos (by rw [h1, hs]; rfl), List.map_cons, List.map_cons, List.sum_cons, List.sum_cons, h];omega
    ·rw [List.filter_cons_of_neg (by rw [hs]; simp), List.filter_cons_of_neg (by rw [h1, hs]; simp), h]
theorem wtC_step (P : Program) (seen : List FuncId) (f : FuncId) (hf : seen.contains f = false) : (leadsAt P f).length + wtC P (f :: seen) ≤ wtC P seen := by
 have h := sum_part (fun i => (leadsAt P i).length + 1) seen f hf (List.range P.funcs.size) List.nodup_range;unfold wtC;rw [h];by_cases hm : f ∈ List.range P.funcs.size
 ·rw [if_pos hm];exact Nat.le_trans (Nat.le_of_eq (Nat.add_comm _ _)) (Nat.add_le_add_left (Nat.le_succ _) _)
 ·rw [if_neg hm];have : leadsAt P f = [] := by
   unfold leadsAt;rw [Array.getElem?_eq_none (by simpa using hm)];rfl
  rw [this];exact Nat.le_of_eq (Nat.zero_add _)
theorem via_closed (P : Program) : ∀ (n : Nat) (todo seen : List FuncId), todo.length + wtC P seen ≤ n → (∀ g ∈ seen, ∀ h ∈ leadsAt P g, h ∈ seen ∨ h ∈ todo) →
 (∀ t, t ∈ todo ∨ t ∈ seen → t ∈ P.closureVia n todo seen) ∧ ∀ g ∈ P.closureVia n todo seen, ∀ h ∈ leadsAt P g, h ∈ P.closureVia n todo seen := by
 intro n;induction n with
 | zero =>
   intro todo seen hn hc;have h0 : todo = [] := List.length_eq_zero_iff.1 (by omega);subst h0;have e : P.closureVia 0 [] seen = seen.reverse := by unfold Program.closureVia; rfl
   rw [e];refine ⟨fun t ht => ?_, fun g hg h hh => ?_⟩
   ·rcases ht with ht | ht
    ·cases ht
    ·simpa using ht
   ·rcases hc g (by simpa using hg) h hh with h1 | h1
    ·simpa using h1
    ·cases h1
 | succ n ih =>
   intro todo seen hn hc;cases todo with
   | nil =>
     have e : P.closureVia (n + 1) [] seen = seen.reverse := by unfold Program.closureVia; rfl
     rw [e];refine ⟨fun t ht => ?_, fun g hg h hh => ?_⟩
     ·rcases ht with ht | ht
      ·cases ht
      ·simpa using ht
     ·rcases hc g (by simpa using hg) h hh with h1 | h1
      ·simpa using h1
      ·cases h1
   | cons f todo =>
     rw [List.length_cons] at hn;cases hs : seen.contains f
     ·have e : P.closureVia (n + 1) (f :: todo) seen = P.closureVia n (leadsAt P f ++ todo) (f :: seen) := by
       conv => lhs; unfold Program.closureVia
       rw [hs]; rfl
      rw [e];have hw := wtC_step P seen f hs;obtain ⟨h1, h2⟩ := ih (leadsAt P f ++ todo) (f :: seen) (by rw [List.length_append]; omega) (fun g hg h hh => by
       rcases List.mem_cons.1 hg with rfl | hg
       ·exact .inr (List.mem_append.2 (.inl hh))
       ·rcases hc g hg h hh with h3 | h3
        ·exact .inl (List.mem_cons.2 (.inr h3))
        ·rcases List.mem_cons.1 h3 with rfl | h3
         ·exact .inl List.mem_cons_self
         ·exact .inr (List.mem_append.2 (.inr h3)))
      refine ⟨fun t ht => h1 t ?_, h2⟩;rcases ht with ht | ht
      ·rcases List.mem_cons.1 ht with rfl | ht
       ·exact .inr List.mem_cons_self
       ·exact .inl (List.mem_append.2 (.inr ht))
      ·exact .inr (List.mem_cons.2 (.inr ht))
     ·have e : P.closureVia (n + 1) (f :: todo) seen = P.closureVia n todo seen := by
       conv => lhs; unfold Program.closureVia
       rw [hs]; rfl
      rw [e];have hf : f ∈ seen := by simpa using hs
      obtain ⟨h1, h2⟩ := ih todo seen (by omega) (fun g hg h hh => by
       rcases hc g hg h hh with h3 | h3
       ·exact .inl h3
       ·rcases List.mem_cons.1 h3 with rfl | h3
        ·exact .inl hf
        ·exact .inr h3)
      refine ⟨fun t ht => h1 t ?_, h2⟩;rcases ht with ht | ht
      ·rcases List.mem_cons.1 ht with rfl | ht
       ·exact .inr hf
       ·exact .inl ht
      ·exact .inr ht
theorem wtC_nil (P : Program) : 1 + wtC P [] = 1 + (P.funcs.toList.map fun g => (P.leadsTo g).length + 1).sum := by
 unfold wtC;have h1 : ((List.range P.funcs.size).filter fun i => !([] : List FuncId).contains i) = List.range P.funcs.size := by
  rw [List.filter_eq_self];intro a _;rfl
 rw [h1];congr 2;apply List.ext_getElem
 ·simp
 ·intro i h2 h3;have hi : i < P.funcs.size := by simpa using h2
  simp [leadsAt, hi]
section
variable {P : Program} {f g h : FuncId}
theorem closure_self : f ∈ P.closure f := by
 unfold Program.closure;rw [← wtC_nil];exact (via_closed P _ [f] [] (by simp) (fun g hg => by cases hg)).1 f (.inl (by simp))
theorem closure_step (hg : g ∈ P.closure f) (hh : (leadsAt P g).contains h = true) : h ∈ P.closure f := by
 have hm : h ∈ leadsAt P g := by simpa using hh
 unfold Program.closure at hg ⊢;rw [← wtC_nil] at hg ⊢;exact (via_closed P _ [f] [] (by simp) (fun g hg => by cases hg)).2 g hg h hm
def unfB (P : Program) (g : FuncId) : Bool := (P.funcs[g]?).any fun fn => fn.body.any Code.unfollowed
theorem unfollowed_of (hg : g ∈ P.closure f) (hu : unfB P g = true) : P.unfollowed f = true := by
 unfold Program.unfollowed;rw [List.any_eq_true];refine ⟨g, hg, ?_⟩;unfold unfB at hu;cases e : P.funcs[g]? with
 | none => rw [e] at hu; cases hu
 | some fn =>
   rw [e] at hu;cases eb : fn.body with
   | none => simp [eb] at hu
   | some c => simpa [eb] using hu
theorem recurses_of (hu : P.unfollowed f = true) : P.recurses f = true := by unfold Program.recurses; rw [hu]; rfl
def ownB (fn : Func) : Bool := !fn.ours && fn.name != "runtime.NumGoroutine" && fn.body.any fun c => c.globalsNamed.isEmpty
def okAt (P : Program) (lo hi : Nat) (i : FuncId) : Bool := (P.funcs[i]?).any fun fn => ownB fn && fn.body.any fun c => c.funcsNamed.all fun h => decide (lo ≤ h ∧ h < hi)
def okAll (P : Program) (lo hi : Nat) : Bool := (List.range (hi - lo)).all fun k => okAt P lo hi (lo + k)
variable {lo hi : Nat}
theorem okAll_at {g : Nat} (ha : okAll P lo hi = true) (h1 : lo ≤ g) (h2 : g < hi) : okAt P lo hi g = true := by
 unfold okAll at ha;rw [List.all_eq_true] at ha;have := ha (g - lo) (List.mem_range.2 (by omega));rwa [Nat.add_sub_cancel' h1] at this
theorem okAll_leads (ha : okAll P lo hi = true) (h1 : lo ≤ g) (h2 : g < hi) (hh : h ∈ leadsAt P g) : lo ≤ h ∧ h < hi := by
 have hk := okAll_at ha h1 h2;unfold okAt at hk;unfold leadsAt at hh;cases e : P.funcs[g]? with
 | none => rw [e] at hk; cases hk
 | some fn =>
   rw [e] at hk hh;cases eb : fn.body with
   | none => simp [eb] at hk
   | some c =>
     simp only [Option.any_some, eb, Bool.and_eq_true, List.all_eq_true] at hk;have hh2 : h ∈ c.funcsNamed := by
      have : P.leadsTo fn = c.funcsNamed := by unfold Program.leadsTo; rw [eb]
      rw [← this]; exact hh
     exact of_decide_eq_true (hk.2 h hh2)
theorem via_within (ha : okAll P lo hi = true) : ∀ (n : Nat) (todo seen : List FuncId), (∀ t ∈ todo, lo ≤ t ∧ t < hi) → (∀ t ∈ seen, lo ≤ t ∧ t < hi) → ∀ t ∈ P.closureVia n todo seen, lo ≤ t ∧ t < hi := by
 intro n;induction n with
 | zero =>
   intro todo seen _ h2 t ht;have e : P.closureVia 0 todo seen = seen.reverse := by unfold Program.closureVia; rfl
   rw [e] at ht;exact h2 t (by simpa using ht)
 | succ n ih =>
   intro todo seen h1 h2;cases todo with
   | nil =>
     intro t ht;have e : P.closureVia (n + 1) [] seen = seen.reverse := by unfold Program.closureVia; rfl
     rw [e] at ht;exact h2 t (by simpa using ht)
   | cons f todo =>
     have hf := h1 f List.mem_cons_self;cases hs : seen.contains f
     ·have e : P.closureVia (n + 1) (f :: todo) seen = P.closureVia n (leadsAt P f ++ todo) (f :: seen) := by
       conv => lhs; unfold Program.closureVia
       rw [hs]; rfl
      rw [e];refine ih _ _ (fun t ht => ?_) (fun t ht => ?_)
      ·rcases List.mem_append.1 ht with ht | ht
       ·exact okAll_leads ha hf.1 hf.2 ht
       ·exact h1 t (List.mem_cons_of_mem _ ht)
      ·rcases List.mem_cons.1 ht with rfl | ht
       ·exact hf
       ·exact h2 t ht
     ·have e : P.closureVia (n + 1) (f :: todo) seen = P.closureVia n todo seen := by
       conv => lhs; unfold Program.closureVia
       rw [hs]; rfl
      rw [e];exact ih _ _ (fun t ht => h1 t (List.mem_cons_of_mem _ ht)) h2
theorem closure_own (ha : okAll P lo hi = true) (h1 : lo ≤ f) (h2 : f < hi) (hg : g ∈ P.closure f) : ∃ fn c, P.funcs[g]? = some fn ∧ fn.body = some c ∧ fn.ours = false ∧ fn.name ≠ "runtime.NumGoroutine" ∧ c.globalsNamed = [] := by
 have hr := via_within ha _ _ _ (fun t ht => by obtain rfl := List.mem_singleton.1 ht; exact ⟨h1, h2⟩) (fun t ht => by cases ht) g hg;have hk := okAll_at ha hr.1 hr.2;unfold okAt ownB at hk;cases e : P.funcs[g]? with
 | none => rw [e] at hk; cases hk
 | some fn =>
   rw [e] at hk;cases eb : fn.body with
   | none => simp [eb] at hk
   | some c =>
     simp only [Option.any_some, eb, Bool.and_eq_true, Bool.not_eq_true', bne_iff_ne, ne_eq, List.isEmpty_iff] at hk;exact ⟨fn, c, rfl, eb, hk.1.1.1, hk.1.1.2, hk.1.2⟩
theorem inPlace_none (ha : okAll P lo hi = true) (h1 : lo ≤ f) (h2 : f < hi) : P.inPlace f = [] := by
 unfold Program.inPlace;rw [List.filterMap_eq_nil_iff];intro g hg;obtain ⟨fn, c, e, eb, k1, k2, _⟩ := closure_own ha h1 h2 hg;simp [e, eb, k1, k2]
theorem varsNamed_none (ha : okAll P lo hi = true) (h1 : lo ≤ f) (h2 : f < hi) : P.varsNamed f = [] := by
 unfold Program.varsNamed;have e1 : ((P.closure f).flatMap fun g => ((P.funcs[g]?).bind (·.body)).elim [] Code.globalsNamed) = [] := by
  rw [List.flatMap_eq_nil_iff];intro g hg;obtain ⟨fn, c, e, eb, _, _, k3⟩ := closure_own ha h1 h2 hg;simp [e, eb, k3]
 have e2 : ((P.closure f).filterMap fun g => (P.funcs[g]?).bind fun fn => if fn.body.isNone then entryReads.lookup fn.name else none) = [] := by
  rw [List.filterMap_eq_nil_iff];intro g hg;obtain ⟨fn, c, e, eb, _, _, _⟩ := closure_own ha h1 h2 hg;simp [e, eb]
 rw [e1, e2];rfl
end
theorem all_own : okAll Tryz.pinned.checked.prog 3 224 = true := by kernel_rfl
end Go.Proofs.YticadlkcjhglnaaGreat
