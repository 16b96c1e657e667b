/-
-/
import Derived.Test.YticadlkcjhglnaaGreatQoGA
namespace Go.Proofs.YticadlkcjhglnaaGreat
open Go.RowKit
def SimE (E : Nat → Nat → Prop) (S v : Nat) : Prop := ∀ a b, S.testBit a = true → S.testBit b = true → a ≠ b → E v a → E v b → E a b
inductive Cho (E : Nat → Nat → Prop) : Nat → Prop
 | zero : Cho E 0
 | step {S : Nat} (v : Nat) : S.testBit v = true → SimE E S v → Cho E (S ^^^ 2 ^ v) → Cho E S
theorem tb_xor {S v a : Nat} (h : S.testBit v = true) : (S ^^^ 2 ^ v).testBit a = true ↔ S.testBit a = true ∧ a ≠ v := by
 rw [Nat.testBit_xor, Nat.testBit_two_pow];by_cases e : v = a
 ·subst e; simp [h]
 ·simp [e, Ne.symm e]
theorem Cho.sub {E : Nat → Nat → Prop} {S : Nat} (h : Cho E S) : ∀ {T : Nat}, (∀ a, T.testBit a = true → S.testBit a = true) → Cho E T := by
 induction h with
 | zero =>
   intro T hT;have : T = 0 := Nat.eq_of_testBit_eq fun i => by
    cases hb : T.testBit i
    ·simp
    ·have := hT i hb;simp at this
   rw [this]; exact .zero
 | @step S v hv hs _ ih =>
   intro T hT;cases hb : T.testBit v
   ·refine ih fun a ha => (tb_xor hv).2 ⟨hT a ha, fun e => ?_⟩
    rw [e, hb] at ha; cases ha
   ·refine .step v hb (fun a b ha hb' => hs a b (hT a ha) (hT b hb')) (ih fun a ha => ?_);have := (tb_xor hb).1 ha;exact (tb_xor hv).2 ⟨hT a this.1, this.2⟩
theorem Cho.congr {E F : Nat → Nat → Prop} {S : Nat} (h : Cho E S) (he : ∀ a b, S.testBit a = true → S.testBit b = true → (E a b ↔ F a b)) : Cho F S := by
 induction h with
 | zero => exact .zero
 | @step S v hv hs _ ih =>
   refine .step v hv (fun a b ha hb hab h1 h2 => (he a b ha hb).1 (hs a b ha hb hab ((he v a hv ha).2 h1) ((he v b hv hb).2 h2))) (ih fun a b ha hb => he a b ((tb_xor hv).1 ha).1 ((tb_xor hv).1 hb).1)
theorem Cho.dirac {E : Nat → Nat → Prop} (sym : ∀ a b, E a b → E b a) {S : Nat} (h : Cho E S) : ∀ (T : Nat → Prop), (∀ a b, T a → T b → S.testBit a = true → S.testBit b = true → a ≠ b → E a b) → (∃ u, S.testBit u = true ∧ ¬ T u) → ∃ u, S.testBit u = true ∧ ¬ T u ∧ SimE E S u := by
 induction h with
 | zero => rintro T _ ⟨u, hu, _⟩; simp at hu
 | @step S v hv hs _ ih =>
   intro T hT ⟨u0, hu0, hn0⟩;by_cases htv : T v
   ·by_cases hall : ∀ y, S.testBit y = true → y ≠ v → E v y
    ·refine ⟨u0, hu0, hn0, fun a b ha hb hab _ _ => ?_⟩;by_cases ea : a = v
     ·rw [ea]; exact hall b hb (fun e => hab (ea.trans e.symm))
     ·by_cases eb : b = v
      ·rw [eb]; exact sym _ _ (hall a ha ea)
      ·exact hs a b ha hb hab (hall a ha ea) (hall b hb eb)
    ·obtain ⟨y, hy⟩ := Classical.not_forall.1 hall;have hy1 : S.testBit y = true := Classical.byContradiction fun h => hy fun h' => absurd h' h
     have hy2 : y ≠ v := fun e => hy fun _ h' => absurd e h'
     have hy3 : ¬ E v y := fun e => hy fun _ _ => e
     obtain ⟨u, hu, hun, hus⟩ := ih (fun a => E v a) (fun a b ha hb h1 h2 hab => hs a b ((tb_xor hv).1 h1).1 ((tb_xor hv).1 h2).1 hab ha hb) ⟨y, (tb_xor hv).2 ⟨hy1, hy2⟩, hy3⟩;have hu2 := (tb_xor hv).1 hu;refine ⟨u, hu2.1, fun htu => hun (hT v u htv htu hv hu2.1 (Ne.symm hu2.2)), fun a b ha hb hab h1 h2 => ?_⟩;have ea : a ≠ v := fun e => hun (sym _ _ (e ▸ h1))
     have eb : b ≠ v := fun e => hun (sym _ _ (e ▸ h2))
     exact hus a b ((tb_xor hv).2 ⟨ha, ea⟩) ((tb_xor hv).2 ⟨hb, eb⟩) hab h1 h2
   ·exact ⟨v, hv, htv, hs⟩
def Wo (E : Nat → Nat → Prop) (u v a b : Nat) : Prop := E a b ∧ ¬ (a = u ∧ b = v) ∧ ¬ (a = v ∧ b = u)
theorem Cho.cut {E : Nat → Nat → Prop} (sym : ∀ a b, E a b → E b a) (irr : ∀ a, ¬ E a a) {u v : Nat} (huv : u ≠ v) : ∀ (S : Nat), Cho E S → S.testBit u = true → S.testBit v = true → E u v →
 (∀ a b, S.testBit a = true → S.testBit b = true → a ≠ b → E u a → E v a → E u b → E v b → E a b) → Cho (Wo E u v) S := by
 intro S;induction S using Nat.strongRecOn with
 | ind S ih =>
   intro hc hu hv he hC;by_cases hall : ∀ y, S.testBit y = true → y = u ∨ y = v ∨ (E u y ∧ E v y)
   ·refine .step u hu (fun a b ha hb hab h1 h2 => ?_) ?_
    ·have a1 : a ≠ v := fun e => h1.2.1 ⟨rfl, e⟩
     have a2 : a ≠ u := fun e => irr u (e ▸ h1.1)
     have b1 : b ≠ v := fun e => h2.2.1 ⟨rfl, e⟩
     have b2 : b ≠ u := fun e => irr u (e ▸ h2.1)
     have ca := ((hall a ha).resolve_left a2).resolve_left a1;have cb := ((hall b hb).resolve_left b2).resolve_left b1;exact ⟨hC a b ha hb hab ca.1 ca.2 cb.1 cb.2, fun h => a2 h.1, fun h => a1 h.1⟩
    ·refine (hc.sub fun a ha => ((tb_xor hu).1 ha).1).congr fun a b ha hb => ?_
     have a2 := ((tb_xor hu).1 ha).2;have b2 := ((tb_xor hu).1 hb).2;exact ⟨fun h => ⟨h, fun h' => a2 h'.1, fun h' => b2 h'.2⟩, fun h => h.1⟩
   ·obtain ⟨y, hy⟩ := Classical.not_forall.1 hall;have hy1 : S.testBit y = true := Classical.byContradiction fun h => hy fun h' => absurd h' h
    have hy2 : ¬ (y = u ∨ y = v ∨ (E u y ∧ E v y)) := fun h => hy fun _ => h
    obtain ⟨x, hx, hxT, hxs⟩ := hc.dirac sym (fun y => y = u ∨ y = v ∨ (E u y ∧ E v y)) (by
     rintro a b (rfl | rfl | ha) (rfl | rfl | hb) h1 h2 hab
     ·exact absurd rfl hab
     ·exact he
     ·exact hb.1
     ·exact sym _ _ he
     ·exact absurd rfl hab
     ·exact hb.2
     ·exact sym _ _ ha.1
     ·exact sym _ _ ha.2
     ·exact hC a b h1 h2 hab ha.1 ha.2 hb.1 hb.2) ⟨y, hy1, hy2⟩
    have xu : x ≠ u := fun e => hxT (.inl e)
    have xv : x ≠ v := fun e => hxT (.inr (.inl e))
    refine .step x hx (fun a b ha hb hab h1 h2 => ⟨hxs a b ha hb hab h1.1 h2.1, ?_, ?_⟩) ?_
    ·rintro ⟨rfl, rfl⟩;exact hxT (.inr (.inr ⟨sym _ _ h1.1, sym _ _ h2.1⟩))
    ·rintro ⟨rfl, rfl⟩;exact hxT (.inr (.inr ⟨sym _ _ h2.1, sym _ _ h1.1⟩))
    ·have hlt : S ^^^ 2 ^ x < S := xor_bit_lt hx;refine ih _ hlt (hc.sub fun a ha => ((tb_xor hx).1 ha).1) ((tb_xor hx).2 ⟨hu, Ne.symm xu⟩) ((tb_xor hx).2 ⟨hv, Ne.symm xv⟩) he fun a b ha hb => hC a b ((tb_xor hx).1 ha).1 ((tb_xor hx).1 hb).1
theorem mask_ex (S : Nat) (P : Nat → Prop) : ∃ W : Nat, ∀ i, W.testBit i = true ↔ S.testBit i = true ∧ P i := by
 have key : ∀ n, ∃ W : Nat, W < 2 ^ n ∧ ∀ i, W.testBit i = true ↔ i < n ∧ S.testBit i = true ∧ P i := by
  intro n;induction n with
  | zero => exact ⟨0, by simp, fun i => by simp⟩
  | succ n ih =>
    obtain ⟨W, hW, h⟩ := ih;by_cases e : S.testBit n = true ∧ P n
    ·refine ⟨W ||| 2 ^ n, Nat.or_lt_two_pow (by rw [Nat.pow_succ]; omega) (by rw [Nat.pow_succ]; have := Nat.two_pow_pos n; omega), fun i => ?_⟩;rw [Nat.testBit_or, Nat.testBit_two_pow, Bool.or_eq_true, h];by_cases ei : n = i
     ·subst ei; simp [e.1, e.2]
     ·simp [ei]; intro _ _; omega
    ·refine ⟨W, by rw [Nat.pow_succ]; omega, fun i => ?_⟩;rw [h];by_cases ei : i = n
     ·subst ei; exact ⟨fun h => absurd h.1 (by omega), fun h => absurd h.2 e⟩
     ·exact ⟨fun h => ⟨by omega, h.2⟩, fun h => ⟨by omega, h.2⟩⟩
 obtain ⟨W, _, h⟩ := key (S + 1);refine ⟨W, fun i => (h i).trans ⟨fun h => h.2, fun h => ⟨?_, h⟩⟩⟩;have := Nat.ge_two_pow_of_testBit h.1;have := Nat.lt_two_pow_self (n := i);omega
theorem Cho.between {G H : Nat → Nat → Prop} (symG : ∀ a b, G a b → G b a) (symH : ∀ a b, H a b → H b a) (irr : ∀ a, ¬ H a a) {S : Nat} (hg : Cho G S) : Cho H S → (∀ a b, S.testBit a = true → S.testBit b = true → G a b → H a b) →
 (∃ a b, S.testBit a = true ∧ S.testBit b = true ∧ H a b ∧ ¬ G a b) → ∃ u v, S.testBit u = true ∧ S.testBit v = true ∧ H u v ∧ ¬ G u v ∧ Cho (Wo H u v) S := by
 induction hg with
 | zero => rintro _ _ ⟨a, _, ha, _⟩; simp at ha
 | @step S v hv hs _ ih =>
   intro hh hsub ⟨a0, b0, ha0, hb0, h0, hn0⟩;by_cases hA : ∃ z, S.testBit z = true ∧ H v z ∧ ¬ G v z
   ·obtain ⟨z, hz, hz1, hz2⟩ := hA;obtain ⟨W, hW⟩ := mask_ex S (H v);obtain ⟨u, hu, huT, hus⟩ := (hh.sub (T := W) fun a ha => ((hW a).1 ha).1).dirac symH (G v) (fun a b ha hb h1 h2 hab => hsub a b ((hW a).1 h1).1 ((hW b).1 h2).1 (hs a b ((hW a).1 h1).1 ((hW b).1 h2).1 hab ha hb)) ⟨z, (hW z).2 ⟨hz, hz1⟩, hz2⟩;obtain ⟨hu1, hu2⟩ := (hW u).1 hu;refine ⟨v, u, hv, hu1, hu2, huT, hh.cut symH irr (fun e : v = u => irr v (by rw [← e] at hu2; exact hu2)) S hv hu1 hu2 fun a b ha hb hab h1 h2 h3 h4 => ?_⟩;exact hus a b ((hW a).2 ⟨ha, h1⟩) ((hW b).2 ⟨hb, h3⟩) hab h2 h4
   ·have hB : ∀ z, S.testBit z = true → H v z → G v z := fun z hz h => Classical.byContradiction fun hn => hA ⟨z, hz, h, hn⟩
    have a1 : a0 ≠ v := fun e => by subst e; exact hn0 (hB b0 hb0 h0)
    have b1 : b0 ≠ v := fun e => by subst e; exact hn0 (symG _ _ (hB a0 ha0 (symH _ _ h0)))
    obtain ⟨u, w, hu, hw, h1, h2, h3⟩ := ih (hh.sub fun a ha => ((tb_xor hv).1 ha).1) (fun a b ha hb => hsub a b ((tb_xor hv).1 ha).1 ((tb_xor hv).1 hb).1) ⟨a0, b0, (tb_xor hv).2 ⟨ha0, a1⟩, (tb_xor hv).2 ⟨hb0, b1⟩, h0, hn0⟩;refine ⟨u, w, ((tb_xor hv).1 hu).1, ((tb_xor hv).1 hw).1, h1, h2, .step v hv (fun a b ha hb hab k1 k2 => ?_) h3⟩;have hg := hs a b ha hb hab (hB a ha k1.1) (hB b hb k2.1);refine ⟨hsub a b ha hb hg, ?_, ?_⟩
    ·rintro ⟨rfl, rfl⟩; exact h2 hg
    ·rintro ⟨rfl, rfl⟩; exact h2 (symG _ _ hg)
theorem cliq_iff {r : Nat → Nat} {s : Nat} (hs : s < 128) (hirr : ∀ v, s.testBit v = true → (r v).testBit v = false) : cliq r s = true ↔ ∀ a b, s.testBit a = true → s.testBit b = true → a ≠ b → (r a).testBit b = true := by
 have h7 : ∀ {v}, s.testBit v = true → v < 7 := fun h => bit_lt (n := 7) (by omega) h
 constructor
 ·intro h a b ha hb hab;unfold cliq at h;rw [List.all_eq_true] at h;have h1 := h a (mem_listN.2 ⟨h7 ha, ha⟩);rw [beq_iff_eq] at h1;have h2 := congrArg (fun z => z.testBit b) h1;simp only [Nat.testBit_xor, Nat.testBit_and, Nat.testBit_two_pow, hb, Bool.true_and] at h2;rw [show decide (a = b) = false by simpa using hab] at h2;simpa using h2
 ·intro h;refine cliq_yes fun v _ hv => Nat.eq_of_testBit_eq fun i => ?_
  simp only [Nat.testBit_xor, Nat.testBit_and, Nat.testBit_two_pow];by_cases e : v = i
  ·subst e; rw [hv, hirr v hv]; simp
  ·rw [show decide (v = i) = false by simpa using e];cases hi : s.testBit i
   ·rfl
   ·rw [h v i hv hi e]; rfl
section
variable {m : Nat} {r : Nat → Nat}
def EM (r : Nat → Nat) (m a b : Nat) : Prop := a < m ∧ b < m ∧ (r a).testBit b = true
theorem EM.sym (vg : VG m r) (a b : Nat) (h : EM r m a b) : EM r m b a := ⟨h.2.1, h.1, by rw [← vg.sym a b h.1 h.2.1]; exact h.2.2⟩
theorem EM.irr (vg : VG m r) (a : Nat) (h : EM r m a a) : False := by have := vg.irr a h.1; rw [h.2.2] at this; cases this
theorem simE_iff (vg : VG m r) {S v : Nat} (hS : S < 2 ^ m) (hv : v < m) : cliq r (r v &&& S) = true ↔ SimE (EM r m) S v := by
 have h128 := two_pow_le vg.n7;have hl : r v &&& S < 128 := Nat.lt_of_le_of_lt Nat.and_le_right (by omega);have hb : ∀ {a}, S.testBit a = true → a < m := fun h => bit_lt hS h
 rw [cliq_iff hl (fun a ha => by rw [Nat.testBit_and, Bool.and_eq_true] at ha; exact vg.irr a (hb ha.2))];constructor
 ·intro h a b ha hb' hab h1 h2;exact ⟨hb ha, hb hb', h a b (by rw [Nat.testBit_and, h1.2.2, ha]; rfl) (by rw [Nat.testBit_and, h2.2.2, hb']; rfl) hab⟩
 ·intro h a b ha hb' hab;rw [Nat.testBit_and, Bool.and_eq_true] at ha hb';exact (h a b ha.2 hb'.2 hab ⟨hv, hb ha.2, ha.1⟩ ⟨hv, hb hb'.2, hb'.1⟩).2.2
theorem elimB_cho (vg : VG m r) : ∀ (S : Nat), S < 2 ^ m → (elimB r S = true ↔ Cho (EM r m) S) := by
 intro S;induction S using Nat.strongRecOn with
 | ind S ih =>
   intro hS;have h128 := two_pow_le vg.n7;by_cases h0 : S = 0
   ·subst h0;exact ⟨fun _ => .zero, fun _ => elimB_zero r⟩
   ·cases hf : firstS r S with
    | none =>
      rw [elimB_none h0 hf];refine ⟨fun h => (by cases h), fun h => ?_⟩;cases h with
      | zero => exact absurd rfl h0
      | step v hv hs _ =>
        unfold firstS at hf;have hvm := bit_lt hS hv;have := List.find?_eq_none.1 hf v (mem_listN.2 ⟨by have := vg.n7; omega, hv⟩);exact absurd ((simE_iff vg hS hvm).2 hs) this
    | some v =>
      obtain ⟨_, hv⟩ := firstS_bit hf;have hvm := bit_lt hS hv;have hlt := xor_bit_lt hv;rw [elimB_some hf, ih _ hlt (by omega)];have hsim : SimE (EM r m) S v := by
       refine (simE_iff vg hS hvm).1 ?_;unfold firstS at hf;exact List.find?_some (p := fun v => cliq r (r v &&& S)) hf
      exact ⟨fun h => .step v hv hsim h, fun h => h.sub fun a ha => ((tb_xor hv).1 ha).1⟩
end
end Go.Proofs.YticadlkcjhglnaaGreat
