/-
  Several texts in one.
-/
import Derived.Test.YtfabbohijhjpcaaGreatDoorRcArcN
import Derived.Test.YtfabbohijhjpcaaGreatDoorRcBarP
import Derived.Shelf.Strconv.Itoa3
import Derived.Shelf.Strings.OnBuilder
import Derived.Test.YtfabbohijhjpcaaGreatDoorRcGA
import Derived.Test.YtfabbohijhjpcaaGreatDoorRcPthI
import Derived.Test.YtfabbohijhjpcaaGreatDoorRcGB
import Derived.Test.YtfabbohijhjpcaaGreatDoorRcFillP
import Derived.Lib.Join
import Derived.Lib.ItoaLen
import Derived.Shelf.LaysM
import Derived.Test.YtfabbohijhjpcaaGreatDoorRcListZ
import Derived.Laws.Closers25b
/-
-/
namespace Go.Proofs.YtfabbohijhjpcaaGreatDoor
open Go.RowKit
theorem ed_arI {r : Nat → Nat} {m : Nat} : edAll (fun v => (r v : Int)) m = arI (edN r m) := by unfold edAll arI edN; simp
section
variable {A : Option Addr} {m c : Nat} {r : Nat → Nat} {w : World}
theorem EdgesOf_v (h : GV w A m c r) :
 Calls Tryz.prog 218 #[.agg #[.int .i64 m, .slice A m c]] w fun e w' => ∃ A' c', e = .returned (.slice A' (edN r m).length c') ∧ OC w.heap.size w'.heap.size w' A' c' (edN r m) ∧ Below w.heap.size w w' := by
 refine (EdgesOf_i (m : Int) A m c _ w w.heap.size h.rd (Nat.le_refl _) (by have := h.vg.n7; omega)).mono ?_
 rintro e w' ⟨A', c', D, rfl, hD, ho, hb⟩
 have hD2 : lists D = arI (edN r m) := by rw [hD, ← ed_arI]; unfold edgesL; rw [h.ok]; rfl
 exact ⟨A', c', by rw [arI_len hD2], ⟨⟨D, ho.e, hD2⟩, Nat.le_refl _⟩, hb⟩
theorem EdgesOf_sv (h : GV w A m c r) :
 Calls Tryz.prog 95 #[.agg #[.int .i64 m, .slice A m c]] w fun e w' => ∃ A' c', e = .returned (.slice A' (edN r m).length c') ∧ OC w.heap.size w'.heap.size w' A' c' (edN r m) ∧ Below w.heap.size w w' := by
 refine (EdgesOf_s (m : Int) A m c _ w w.heap.size h.rd (Nat.le_refl _) (by have := h.vg.n7; omega)).mono ?_
 rintro e w' ⟨A', c', D, rfl, hD, ho, hb⟩
 have hD2 : lists D = arI (edN r m) := by rw [hD, ← ed_arI]; unfold edgesL; rw [h.ok]; rfl
 exact ⟨A', c', by rw [arI_len hD2], ⟨⟨D, ho.e, hD2⟩, Nat.le_refl _⟩, hb⟩
end
def orQ (w : World) (m : Nat) : Option (Nat → Nat) → Ending → World → Prop
 | none, e, w' => e = .returned (.tuple #[.agg #[.slice none 0 0], .bool false]) ∧ Below w.heap.size w w'
 | some t, e, w' => ∃ A c, e = .returned (.tuple #[.agg #[.slice A m c], .bool true]) ∧ Own w' w.heap.size w'.heap.size 3 1 A m c (fun j => .int .i64 (t j : Nat)) ∧ Below w.heap.size w w'
structure RW (w : World) (g m c : Nat) (x : Nat → Nat) : Prop where
 own : Own w g (g + 1) 3 1 (some ⟨g, 0, none⟩) m c (fun j => .int .i64 (x j : Nat))
 pos : 0 < m
section
variable {w w' : World} {g m c : Nat} {x y : Nat → Nat}
theorem RW.lt (h : RW w g m c x) : g < w.heap.size := by
 obtain ⟨g2, e, _, _, h2, _⟩ := h.own.at_ h.pos
 cases e
 exact h2
theorem RW.keep (h : RW w g m c x) (hb : Below w.heap.size w w') : RW w' g m c x := ⟨h.own.keepB hb h.lt, h.pos⟩
theorem RW.keepF {k : Nat} (h : RW w g m c x) (hf : Fr k (k + 1) w w') (hg : g ≠ k) : RW w' g m c x := ⟨h.own.keep hf (by omega), h.pos⟩
theorem RW.cell (h : RW w g m c x) {j : Nat} (hj : j < m) : w.cell? ⟨g, j, none⟩ = some (.int .i64 (x j : Nat)) := by
 obtain ⟨g2, e, _, _, _, h2, _⟩ := h.own.at_ h.pos
 cases e
 exact h2 j (by omega)
theorem RW.froz (h : RW w g m c x) (j : Nat) : w.frozen? ⟨g, j, none⟩ = false := by
 obtain ⟨g2, e, _, _, _, _, h2⟩ := h.own.at_ h.pos
 cases e
 exact h2 j
theorem RW.set (h : RW w g m c x) {j v : Nat} (hx : ∀ i, y i = if i = j then v else x i) : RW (w.setCell ⟨g, j, none⟩ (.int .i64 (v : Nat))) g m c y :=
 ⟨(h.own.set_ j _).congr (fun i _ => by rw [hx]; split <;> rfl), h.pos⟩
theorem RW.drew (h : RW w g m c x) : RW w.drew g m c x := ⟨h.own.drew, h.pos⟩
theorem RW.gv (h : RW w g m c x) (vg : VG m x) : GV w (some ⟨g, 0, none⟩) m c x := ⟨vg, (h.own.mono (Nat.zero_le _) h.lt).rd⟩
theorem RW.le (h : RW w g m c x) : m ≤ c := h.own.le
theorem RW.of {lo hi : Nat} {A : Option Addr} (h : Own w lo hi 3 1 A m c (fun j => .int .i64 (x j : Nat))) (hm : 0 < m) : ∃ g, A = some ⟨g, 0, none⟩ ∧ lo ≤ g ∧ g < hi ∧ RW w g m c x := by
 obtain ⟨g, h1, h2, h3, h4⟩ := h.only hm
 subst h1
 exact ⟨g, rfl, h2, h3, ⟨h4, hm⟩⟩
theorem fr_set {g j : Nat} {v : Value} (w : World) : Fr g (g + 1) w (w.setCell ⟨g, j, none⟩ v) := (Fr.refl _ _ w).setCell (p := ⟨g, j, none⟩) (Nat.le_refl _) (Nat.lt_succ_self _) _
end
noncomputable def pmO (r : Nat → Nat) (m : Nat) : Option (List Nat × List Nat) :=
 match otO r m, otO (coR r m) m with
 | some t1, some t2 => some ((List.range m).map (osK (pmA t1 t2) m m), (List.range m).map (osK (fun v => pmB t1 t2 m v) m m))
 | _, _ => none
section
variable {r : Nat → Nat} {m : Nat} {t1 t2 : Nat → Nat}
theorem pmO_yes (h1 : otO r m = some t1) (h2 : otO (coR r m) m = some t2) : pmO r m = some ((List.range m).map (osK (pmA t1 t2) m m), (List.range m).map (osK (fun v => pmB t1 t2 m v) m m)) := by unfold pmO; rw [h1, h2]
theorem pmO_no1 (h1 : otO r m = none) : pmO r m = none := by unfold pmO; rw [h1]
theorem pmO_no2 (h2 : otO (coR r m) m = none) : pmO r m = none := by unfold pmO; rw [h2]; cases otO r m <;> rfl
end
end Go.Proofs.YtfabbohijhjpcaaGreatDoor

/-
-/
namespace Go.Proofs.YtfabbohijhjpcaaGreatDoor
open Go.Shelf Go.RowKit
def layJoin_ren : Go.Shelf.Ren := ⟨fun | 156 => 62 | 165 => 118 | 166 => 119 | 169 => 120 | 240 => 183 | 241 => 184 | 276 => 265 | 277 => 266 | n => n, fun | 31 => 72 | 9 => 9 | 3 => 3 | 4 => 4 | 0 => 0 | 20 => 20 | 72 => 104 | 76 => 108 | 70 => 102 | 37 => 22 | 75 => 107 | 127 => 138 | 164 => 173 | 5 => 5 | 80 => 110 | n => n, fun | n => n⟩
theorem layJoin : Go.Proofs.Lays.n156 Tryz.prog layJoin_ren := {
 mixed := by kernel_rfl
 f156 := Tryz.func62.trans (congrArg some (by kernel_rfl))
 f165 := Tryz.func118.trans (congrArg some (by kernel_rfl))
 f166 := Tryz.func119.trans (congrArg some (by kernel_rfl))
 f169 := Tryz.func120.trans (congrArg some (by kernel_rfl))
 f240 := Tryz.func183.trans (congrArg some (by kernel_rfl))
 f241 := Tryz.func184.trans (congrArg some (by kernel_rfl))
 f276 := Tryz.func265.trans (congrArg some (by kernel_rfl))
 f277 := Tryz.func266.trans (congrArg some (by kernel_rfl))
 t0 := Tryz.underlying0
 a0 := Tryz.isAgg0
 z0 := Tryz.sizeOf0
 v0 := Tryz.zeroValue0
 t3 := Tryz.underlying3
 a3 := Tryz.isAgg3
 z3 := Tryz.sizeOf3
 v3 := Tryz.zeroValue3
 t4 := Tryz.underlying4
 a4 := Tryz.isAgg4
 z4 := Tryz.sizeOf4
 v4 := Tryz.zeroValue4
 t9 := Tryz.underlying9
 a9 := Tryz.isAgg9
 z9 := Tryz.sizeOf9
 v9 := Tryz.zeroValue9
 t20 := Tryz.underlying20
 a20 := Tryz.isAgg20
 z20 := Tryz.sizeOf20
 v20 := Tryz.zeroValue20
 t31 := Tryz.underlying72
 a31 := Tryz.isAgg72
 z31 := Tryz.sizeOf72
 v31 := Tryz.zeroValue72
 t37 := Tryz.underlying22
 a37 := Tryz.isAgg22
 z37 := Tryz.sizeOf22
 v37 := Tryz.zeroValue22
 t70 := Tryz.underlying102
 a70 := Tryz.isAgg102
 z70 := Tryz.sizeOf102
 v70 := Tryz.zeroValue102
 t72 := Tryz.underlying104
 a72 := Tryz.isAgg104
 z72 := Tryz.sizeOf104
 v72 := Tryz.zeroValue104
 t75 := Tryz.underlying107
 a75 := Tryz.isAgg107
 z75 := Tryz.sizeOf107
 v75 := Tryz.zeroValue107
 t76 := Tryz.underlying108
 a76 := Tryz.isAgg108
 z76 := Tryz.sizeOf108
 v76 := Tryz.zeroValue108
 t127 := Tryz.underlying138
 a127 := Tryz.isAgg138
 z127 := Tryz.sizeOf138
 v127 := Tryz.zeroValue138
 t164 := Tryz.underlying173
 a164 := Tryz.isAgg173
 z164 := Tryz.sizeOf173
 v164 := Tryz.zeroValue173 }
def layItoa_ren : Go.Shelf.Ren := ⟨fun | 171 => 117 | 243 => 182 | 246 => 264 | 283 => 318 | 284 => 319 | 285 => 320 | 286 => 321 | 129 => 342 | 317 => 341 | 318 => 343 | 319 => 344 | 320 => 345 | 337 => 350 | 338 => 351 | n => n, fun | 3 => 3 | 9 => 9 | 2 => 2 | 4 => 4 | 171 => 188 | 0 => 0 | 53 => 189 | 37 => 22 | 5 => 5 | 173 => 192 | 212 => 200 | 51 => 201 | 20 => 20 | 213 => 202 | 46 => 141 | 232 => 212 | 233 => 213 | n => n, fun | 17 => 1 | 18 => 4 | 19 => 5 | n => n⟩
theorem layItoa : Go.Proofs.Lays.n171 Tryz.prog layItoa_ren := {
 mixed := by kernel_rfl
 f129 := Tryz.func342.trans (congrArg some (by kernel_rfl))
 f171 := Tryz.func117.trans (congrArg some (by kernel_rfl))
 f243 := Tryz.func182.trans (congrArg some (by kernel_rfl))
 f246 := Tryz.func264.trans (congrArg some (by kernel_rfl))
 f283 := Tryz.func318.trans (congrArg some (by kernel_rfl))
 f284 := Tryz.func319.trans (congrArg some (by kernel_rfl))
 f285 := Tryz.func320.trans (congrArg some (by kernel_rfl))
 f286 := Tryz.func321.trans (congrArg some (by kernel_rfl))
 f317 := Tryz.func341.trans (congrArg some (by kernel_rfl))
 f318 := Tryz.func343.trans (congrArg some (by kernel_rfl))
 f319 := Tryz.func344.trans (congrArg some (by kernel_rfl))
 f320 := Tryz.func345.trans (congrArg some (by kernel_rfl))
 f337 := Tryz.func350.trans (congrArg some (by kernel_rfl))
 f338 := Tryz.func351.trans (congrArg some (by kernel_rfl))
 t0 := Tryz.underlying0
 a0 := Tryz.isAgg0
 z0 := Tryz.sizeOf0
 v0 := Tryz.zeroValue0
 t2 := Tryz.underlying2
 a2 := Tryz.isAgg2
 z2 := Tryz.sizeOf2
 v2 := Tryz.zeroValue2
 t3 := Tryz.underlying3
 a3 := Tryz.isAgg3
 z3 := Tryz.sizeOf3
 v3 := Tryz.zeroValue3
 t4 := Tryz.underlying4
 a4 := Tryz.isAgg4
 z4 := Tryz.sizeOf4
 v4 := Tryz.zeroValue4
 t5 := Tryz.underlying5
 a5 := Tryz.isAgg5
 z5 := Tryz.sizeOf5
 v5 := Tryz.zeroValue5
 t9 := Tryz.underlying9
 a9 := Tryz.isAgg9
 z9 := Tryz.sizeOf9
 v9 := Tryz.zeroValue9
 t20 := Tryz.underlying20
 a20 := Tryz.isAgg20
 z20 := Tryz.sizeOf20
 v20 := Tryz.zeroValue20
 t37 := Tryz.underlying22
 a37 := Tryz.isAgg22
 z37 := Tryz.sizeOf22
 v37 := Tryz.zeroValue22
 t46 := Tryz.underlying141
 a46 := Tryz.isAgg141
 z46 := Tryz.sizeOf141
 v46 := Tryz.zeroValue141
 t51 := Tryz.underlying201
 a51 := Tryz.isAgg201
 z51 := Tryz.sizeOf201
 v51 := Tryz.zeroValue201
 t53 := Tryz.underlying189
 a53 := Tryz.isAgg189
 z53 := Tryz.sizeOf189
 v53 := Tryz.zeroValue189
 t171 := Tryz.underlying188
 a171 := Tryz.isAgg188
 z171 := Tryz.sizeOf188
 v171 := Tryz.zeroValue188
 t173 := Tryz.underlying192
 a173 := Tryz.isAgg192
 z173 := Tryz.sizeOf192
 v173 := Tryz.zeroValue192
 t212 := Tryz.underlying200
 a212 := Tryz.isAgg200
 z212 := Tryz.sizeOf200
 v212 := Tryz.zeroValue200
 t213 := Tryz.underlying202
 a213 := Tryz.isAgg202
 z213 := Tryz.sizeOf202
 t232 := Tryz.underlying212
 a232 := Tryz.isAgg212
 z232 := Tryz.sizeOf212
 v232 := Tryz.zeroValue212
 t233 := Tryz.underlying213
 a233 := Tryz.isAgg213
 z233 := Tryz.sizeOf213
 v233 := Tryz.zeroValue213
 g17 := by kernel_rfl
 g18 := by kernel_rfl
 g19 := by kernel_rfl }
theorem layExtra : Builder.Extra Tryz.prog layJoin_ren := {
 sizeBuilder := by kernel_rfl
 liesBuilder := by kernel_rfl
 t5 := Tryz.underlying5
 a5 := Tryz.isAgg5
 z5 := Tryz.sizeOf5
 v5 := Tryz.zeroValue5
 infoByte := by kernel_rfl
 cellsByte := by kernel_rfl
 sizeByte := by kernel_rfl
 neB5 := by decide }
theorem join_any (bk o c : Nat) (xs : List ByteArray) (sep : ByteArray) (w : World)
 (hcells : ∀ (j : Nat) x, xs[j]? = some x → w.cell? ⟨bk, o + j, none⟩ = some (.string x))
 (hbk : bk < w.heap.size) (hN : xs.length ≤ 140737488355328) (hcap : xs.length ≤ c)
 (hlen : (Lib.join (xs.map (·.data.toList)) sep.data.toList).length ≤ 140737488355328) :
 Calls Tryz.prog 62 #[.slice (some ⟨bk, o, none⟩) xs.length c, .string sep] w fun e w' => e = .returned (.string ⟨(Lib.join (xs.map (·.data.toList)) sep.data.toList).toArray⟩) ∧ Below w.heap.size w w' := Any.strings_Join layJoin layExtra bk o c xs sep w hcells hbk hN hcap hlen
end Go.Proofs.YtfabbohijhjpcaaGreatDoor

/-
-/
namespace Go.Proofs.YtfabbohijhjpcaaGreatDoor
open Go.RowKit
def dgB (d : Nat) : ByteArray := ⟨#[UInt8.ofNat (48 + d)]⟩
end Go.Proofs.YtfabbohijhjpcaaGreatDoor

/-
-/
namespace Go.Proofs.YtfabbohijhjpcaaGreatDoor
open Go.RowKit
theorem dataApp (a b : ByteArray) : (a ++ b).data.toList = a.data.toList ++ b.data.toList := by simp
theorem join_snoc (xs : List (List UInt8)) (y sep : List UInt8) (h : xs ≠ []) : Lib.join (xs ++ [y]) sep = Lib.join xs sep ++ (sep ++ y) := by
 cases xs with
 | nil => exact absurd rfl h
 | cons x r =>
   rw [List.cons_append, Lib.join_cons, Lib.join_cons]
   simp [Lib.joinTail, List.append_assoc]
end Go.Proofs.YtfabbohijhjpcaaGreatDoor

/-
-/
namespace Go.Proofs.YtfabbohijhjpcaaGreatDoor
open Go.RowKit
def I64 (n : Int) : Prop := -9223372036854775808 ≤ n ∧ n ≤ 9223372036854775807
def itB (n : Int) : ByteArray := ⟨(Lib.itoa n).toArray⟩
theorem itB_size {n : Int} (h : I64 n) : (itB n).size ≤ 21 := by
 have := Lib.itoa_length_le n h.1 h.2
 show (Lib.itoa n).toArray.size ≤ 21
 simpa using this
theorem itB_dg {d : Nat} (h : d < 10) : itB (d : Int) = dgB d := by
 unfold itB dgB
 rw [Lib.itoa_nonneg, Lib.decDigits_one h]
def cmJ (T : Nat → ByteArray) : Nat → ByteArray
 | 0 => ⟨#[]⟩
 | k + 1 => (if k = 0 then cmJ T k else cmJ T k ++ ⟨#[44]⟩) ++ T k
theorem cmJ_one (T : Nat → ByteArray) {k : Nat} (h : k = 0) : cmJ T (k + 1) = cmJ T k ++ T k := by
 show (if k = 0 then _ else _) ++ _ = _
 rw [if_pos h]
theorem cmJ_more (T : Nat → ByteArray) {k : Nat} (h : k ≠ 0) : cmJ T (k + 1) = cmJ T k ++ ⟨#[44]⟩ ++ T k := by
 show (if k = 0 then _ else _) ++ _ = _
 rw [if_neg h]
theorem cmJ_size {T : Nat → ByteArray} {M : Nat} : ∀ k, (∀ j, j < k → (T j).size ≤ M) → (cmJ T k).size ≤ (M + 1) * k
 | 0, _ => Nat.zero_le _
 | k + 1, h => by
   have ih := cmJ_size k (fun j hj => h j (by omega))
   have h1 := h k (by omega)
   rw [Nat.mul_add]
   by_cases h0 : k = 0
   ·rw [cmJ_one T h0, ByteArray.size_append]; omega
   ·rw [cmJ_more T h0, ByteArray.size_append, ByteArray.size_append, show (⟨#[44]⟩ : ByteArray).size = 1 from rfl]; omega
def cmL (T : Nat → ByteArray) (k : Nat) : List ByteArray := (List.range k).map T
theorem cmL_succ (T : Nat → ByteArray) (k : Nat) : cmL T (k + 1) = cmL T k ++ [T k] := by unfold cmL; rw [List.range_succ, List.map_append]; rfl
theorem cmL_len (T : Nat → ByteArray) (k : Nat) : (cmL T k).length = k := by unfold cmL; simp
theorem cmJ_join (T : Nat → ByteArray) : ∀ k, Lib.join ((cmL T k).map (·.data.toList)) [44] = (cmJ T k).data.toList
 | 0 => rfl
 | k + 1 => by
   have ih := cmJ_join T k
   rw [cmL_succ, List.map_append]
   by_cases h : k = 0
   ·subst h
    rw [cmJ_one T rfl]
    show Lib.join ([] ++ [(T 0).data.toList]) [44] = _
    rw [List.nil_append, Lib.join_one, dataApp]
    rfl
   ·rw [cmJ_more T h]
    show Lib.join (_ ++ [(T k).data.toList]) [44] = _
    rw [join_snoc _ _ _ (fun e => h (by have := congrArg List.length e; rw [List.length_map, cmL_len] at this; exact this)), ih]
    simp only [dataApp, List.append_assoc]
def noB (b : ByteArray) : ByteArray := if b.toList = [] then ⟨#[110, 111, 110, 101]⟩ else b
theorem noB_yes {b : ByteArray} (h : b.toList = []) : noB b = ⟨#[110, 111, 110, 101]⟩ := if_pos h
theorem noB_no {b : ByteArray} (h : ¬ b.toList = []) : noB b = b := if_neg h
theorem noB_size (b : ByteArray) : (noB b).size ≤ b.size + 4 := by
 unfold noB
 split
 ·show 4 ≤ _; omega
 ·omega
def nuB (X : Nat → Int) (n : Nat) : ByteArray := noB (cmJ (fun j => itB (X j)) n)
theorem nuB_size {X : Nat → Int} {n : Nat} (h : ∀ j, j < n → I64 (X j)) : (nuB X n).size ≤ 22 * n + 4 := by
 have := noB_size (cmJ (fun j => itB (X j)) n)
 have := cmJ_size (T := fun j => itB (X j)) (M := 21) n (fun j hj => itB_size (h j hj))
 unfold nuB; omega
end Go.Proofs.YtfabbohijhjpcaaGreatDoor

/-
-/
namespace Go.Proofs.YtfabbohijhjpcaaGreatDoor
open Go.Shelf Go.RowKit
theorem layItoaM : Go.Proofs.LaysM.n171 Tryz.prog layItoa_ren := { layItoa with
 i0 := by kernel_rfl
 i2 := by kernel_rfl
 i3 := by kernel_rfl
 i4 := by kernel_rfl
 i5 := by kernel_rfl
 i9 := by kernel_rfl
 i20 := by kernel_rfl
 i37 := by kernel_rfl
 i46 := by kernel_rfl
 i51 := by kernel_rfl
 i53 := by kernel_rfl
 i171 := by kernel_rfl
 i173 := by kernel_rfl
 i212 := by kernel_rfl
 i232 := by kernel_rfl
 i233 := by kernel_rfl
 m17 := by kernel_rfl
 m18 := by kernel_rfl
 m19 := by kernel_rfl }
def Tb (w : World) : Prop := Lib.TabIs Tryz.prog w "internal/strconv.uint64pow10" .u64 Lib.pow10Tab
theorem Tb.keep {w w' : World} (h : Tb w) (hb : Below w.heap.size w w') : Tb w' := by
 have hg : Tryz.prog.globalNamed "internal/strconv.uint64pow10" = some (layItoa_ren.g 17) := layItoaM.m17
 unfold Tb Lib.TabIs World.var? at h ⊢
 rw [hg] at h ⊢
 simp only [Option.bind_some] at h ⊢
 have hlt : layItoa_ren.g 17 < w.heap.size := by
  rcases Nat.lt_or_ge (layItoa_ren.g 17) w.heap.size with h' | h'
  ·exact h'
  ·rw [Array.getElem?_eq_none h'] at h; cases h
 rw [hb.block _ hlt]
 exact h
theorem grow_from (w : World) (q : Nat) (os : Array Obj) : Below w.heap.size w (Sort.grow (w.drewN q) os) :=
 ⟨rfl, rfl, rfl, by first | (simp [Sort.grow]; done) | (simp [Sort.grow]; omega), fun i hi => by
   show ((w.drewN q).heap ++ os)[i]? = _
   rw [Array.getElem?_append_left (by show i < w.heap.size; omega)]
   rfl⟩
theorem FormatInt_ia (n : Int) (hn : I64 n) (w : World) (ht : Tb w) : Calls Tryz.prog 61 #[.int .i64 n] w fun e w' => e = .returned (.string (itB n)) ∧ Below w.heap.size w w' := by
 have K : Hid (Calls Tryz.prog 117 #[.int .i64 n] w fun e w' => e = .returned (.string (itB n)) ∧ Below w.heap.size w w') :=
  (Any.strconv_Itoa layItoaM n hn.1 hn.2 w ht).mono fun e w' ⟨he, k, os, hw⟩ => ⟨he, by rw [hw]; exact grow_from w k os⟩
 clear hn ht
 go_enter Tryz.func61, Tryz.ntmps61
 go_wp2_with fail
 refine K.out.mono ?_
 rintro e w1 ⟨rfl, hb1⟩
 go_wp2
 go_ret
 exact ⟨rfl, hb1⟩
end Go.Proofs.YtfabbohijhjpcaaGreatDoor

/-
-/
namespace Go.Proofs.YtfabbohijhjpcaaGreatDoor
open Go.RowKit
def nmL : List ByteArray := [⟨#[99, 104, 111, 114, 100, 97, 108]⟩, ⟨#[105, 110, 116, 101, 114, 118, 97, 108]⟩, ⟨#[112, 114, 111, 112, 101, 114]⟩, ⟨#[99, 111, 103, 114, 97, 112, 104]⟩, ⟨#[115, 112, 108, 105, 116]⟩, ⟨#[116, 104, 114, 101, 115, 104, 111, 108, 100]⟩, ⟨#[98, 105, 112, 97, 114, 116, 105, 116, 101]⟩, ⟨#[115, 116, 114, 111, 110, 103]⟩, ⟨#[112, 101, 114, 102, 101, 99, 116]⟩]
def nm (j : Nat) : ByteArray := nmL.getD j ⟨#[]⟩
theorem nm_own (w : World) : Own (w.alloc (Obj.cells #[.string ⟨#[99, 104, 111, 114, 100, 97, 108]⟩, .string ⟨#[105, 110, 116, 101, 114, 118, 97, 108]⟩, .string ⟨#[112, 114, 111, 112, 101, 114]⟩, .string ⟨#[99, 111, 103, 114, 97, 112, 104]⟩, .string ⟨#[115, 112, 108, 105, 116]⟩, .string ⟨#[116, 104, 114, 101, 115, 104, 111, 108, 100]⟩, .string ⟨#[98, 105, 112, 97, 114, 116, 105, 116, 101]⟩, .string ⟨#[115, 116, 114, 111, 110, 103]⟩, .string ⟨#[112, 101, 114, 102, 101, 99, 116]⟩] 9)) w.heap.size (w.heap.size + 1) 9 1 (some ⟨w.heap.size, 0, none⟩) 9 9 (strs nm) :=
 .inr ⟨w.heap.size, _, rfl, Nat.le_refl _, Nat.lt_succ_self _, heap_alloc_new w _, Nat.le_refl _, by unfold maxLen; omega, rfl, fun j hj => by
  have hc : j = 0 ∨ j = 1 ∨ j = 2 ∨ j = 3 ∨ j = 4 ∨ j = 5 ∨ j = 6 ∨ j = 7 ∨ j = 8 := by omega
  rcases hc with rfl | rfl | rfl | rfl | rfl | rfl | rfl | rfl | rfl <;> rfl⟩
set_option maxRecDepth 100000 in
set_option maxHeartbeats 1000000 in
theorem ClassNames_iv (w : World) : Calls Tryz.prog 79 #[] w fun e w' => ∃ A c, e = .returned (.slice A 9 c) ∧ Own w' w.heap.size w'.heap.size 9 1 A 9 c (strs nm) ∧ Below w.heap.size w w' := by
 have H := Lib.hid (nm_own w)
 go_enter Tryz.func79, Tryz.ntmps79
 go_wp2
 go_ret
 exact ⟨_, 9, rfl, H.out.mono (Nat.le_refl _) (by simp), (Below.refl _ _).alloc (Nat.le_refl _) _⟩
set_option maxRecDepth 100000 in
set_option maxHeartbeats 1000000 in
theorem ClassNames_sv (w : World) : Calls Tryz.prog 71 #[] w fun e w' => ∃ A c, e = .returned (.slice A 9 c) ∧ Own w' w.heap.size w'.heap.size 9 1 A 9 c (strs nm) ∧ Below w.heap.size w w' := by
 have H := Lib.hid (nm_own w)
 go_enter Tryz.func71, Tryz.ntmps71
 go_wp2
 go_ret
 exact ⟨_, 9, rfl, H.out.mono (Nat.le_refl _) (by simp), (Below.refl _ _).alloc (Nat.le_refl _) _⟩
def stL (l : List ByteArray) (j : Nat) : Value := .string (l.getD j ⟨#[]⟩)
theorem stL_left {l : List ByteArray} {k : ByteArray} {j : Nat} (h : j < l.length) : stL (l ++ [k]) j = stL l j := by
 unfold stL
 simp [List.getD, List.getElem?_append_left h]
theorem stL_news {l : List ByteArray} {k : ByteArray} : ∀ i, i < 1 → (#[Value.string k] : Array Value)[i]? = some (stL (l ++ [k]) (l.length * 1 + i)) := by
 intro i hi
 have h0 : i = 0 := by omega
 subst h0
 unfold stL
 simp [List.getD]
theorem wpList_pushS (W : World) {ops : Array Oper} {rest : List Oper} {o : Oper} {a : Act} {Q : Exit → Act → World → Prop} (hgd : o.guard = none) (s y : Operand)
 (ho : o.op = .call { callee := .builtin .append, args := #[s, y], argTypes := #[72, 72] })
 (g c : Nat) (T : List ByteArray) (h : Own W g (g + 1) 9 1 (some ⟨g, 0, none⟩) T.length c (stL T)) (hg : g < W.heap.size) (k : ByteArray) (hs : a.eval s = .slice (some ⟨g, 0, none⟩) T.length c) (cx H : Nat) (hH : W.heap.size = H) (hy : a.eval y = .slice (some ⟨H, 0, none⟩) 1 cx)
 (hn : T.length ≤ 1073741824)
 (hK : ∀ g' cap w', Own w' g' (g' + 1) 9 1 (some ⟨g', 0, none⟩) (T.length + 1) cap (stL (T ++ [k])) → (g' = g ∨ W.heap.size < g') → g' < w'.heap.size → Fr g (g + 1) W w' → wpList Tryz.prog ops Q rest (a.put o.dst (.slice (some ⟨g', 0, none⟩) (T.length + 1) cap)) w') :
 wpList Tryz.prog ops Q (o :: rest) a (W.alloc (Obj.cells #[.string k] 9)) := by
 subst hH
 have ha := h.alloc (Obj.cells #[.string k] 9)
 refine wpList_push (W.alloc (Obj.cells #[.string k] 9)) hgd s y 72 ho 9 _ 1 16 Tryz.underlying72 info_string rfl (by omega) g (g + 1) (some ⟨g, 0, none⟩) T.length c (stL (T ++ [k])) hs
  (ha.congr (fun j hj => (stL_left (by omega)).symm)) (by simp; omega) W.heap.size #[.string k] 9 (0, 0) cx (heap_alloc_new W _) hy rfl stL_news (by simp [Value.oneCell']) hn (by omega) ?_
 intro g' cap w' hp
 obtain ⟨h1, h2, h3, h4⟩ := hp.caged
 exact hK g' cap w' h1 (h2.imp id (fun h => by rw [h]; simp)) h3 (((Fr.refl g (g + 1) W).alloc _).trans h4)
theorem nmL_len : nmL.length = 9 := rfl
end Go.Proofs.YtfabbohijhjpcaaGreatDoor

/-
-/
namespace Go.Proofs.YtfabbohijhjpcaaGreatDoor
open Go.RowKit
theorem stL_own0 (w : World) : Own (w.alloc (Obj.cells #[] 9)) w.heap.size (w.alloc (Obj.cells #[] 9)).heap.size 9 1 (some ⟨w.heap.size, 0, none⟩) 0 0 (stL []) :=
 .inr ⟨w.heap.size, #[], rfl, Nat.le_refl _, by simp, heap_alloc_new w _, Nat.le_refl _, by unfold maxLen; omega, rfl, fun j hj => absurd hj (by omega)⟩
end Go.Proofs.YtfabbohijhjpcaaGreatDoor
