/-
  Several texts in one.
-/
import Derived.Test.YtppkokgiojcgbaaGreatDoorQxListS
import Derived.Test.YtppkokgiojcgbaaGreatDoorQxFmS
import Derived.Lib.Join
import Derived.Lib.ItoaLen
import Derived.Test.YtppkokgiojcgbaaGreatDoorQxSet2I
import Derived.Shelf.Strconv.Itoa3
import Derived.Shelf.Strings.OnBuilder
import Derived.Test.YtppkokgiojcgbaaGreatDoorQxGA
import Derived.Shelf.LaysM
import Derived.Laws.Closers25b
/-
-/
namespace Go.Proofs.YtppkokgiojcgbaaGreatDoor
open Go.RowKit
theorem LN.li {w : World} {A : Option Addr} {c : Nat} {l : List Nat} (h : LN w A c l) : LI w A l.length c (l.map fun v : Nat => (v : Int)) :=
 ⟨by simp, h.rd.congr fun k hk => by simp [List.getD, hk]⟩
section
variable {fn : FuncId} {caps : Array Value} {p : Int → Bool}
end
end Go.Proofs.YtppkokgiojcgbaaGreatDoor

/-
-/
namespace Go.Proofs.YtppkokgiojcgbaaGreatDoor
open Go.RowKit
theorem dataApp (a b : ByteArray) : (a ++ b).data.toList = a.data.toList ++ b.data.toList := by simp
theorem join_snoc (xs : List (List UInt8)) (y sep : List UInt8) (h : xs ≠ []) : Lib.join (xs ++ [y]) sep = Lib.join xs sep ++ (sep ++ y) := by
 cases xs with
 | nil => exact absurd rfl h
 | cons x r =>
   rw [List.cons_append, Lib.join_cons, Lib.join_cons]
   simp [Lib.joinTail, List.append_assoc]
end Go.Proofs.YtppkokgiojcgbaaGreatDoor

/-
-/
namespace Go.Proofs.YtppkokgiojcgbaaGreatDoor
open Go.RowKit
def I64 (n : Int) : Prop := -9223372036854775808 ≤ n ∧ n ≤ 9223372036854775807
def itB (n : Int) : ByteArray := ⟨(Lib.itoa n).toArray⟩
theorem itB_size {n : Int} (h : I64 n) : (itB n).size ≤ 21 := by
 have := Lib.itoa_length_le n h.1 h.2
 show (Lib.itoa n).toArray.size ≤ 21
 simpa using this
theorem itB_dg {d : Nat} (h : d < 10) : itB (d : Int) = dgB d := by
 unfold itB dgB
 rw [Lib.itoa_nonneg, Lib.decDigits_one h]
def cmJ (T : Nat → ByteArray) : Nat → ByteArray
 | 0 => ⟨#[]⟩
 | k + 1 => (if k = 0 then cmJ T k else cmJ T k ++ ⟨#[44]⟩) ++ T k
theorem cmJ_one (T : Nat → ByteArray) {k : Nat} (h : k = 0) : cmJ T (k + 1) = cmJ T k ++ T k := by
 show (if k = 0 then _ else _) ++ _ = _
 rw [if_pos h]
theorem cmJ_more (T : Nat → ByteArray) {k : Nat} (h : k ≠ 0) : cmJ T (k + 1) = cmJ T k ++ ⟨#[44]⟩ ++ T k := by
 show (if k = 0 then _ else _) ++ _ = _
 rw [if_neg h]
theorem cmJ_size {T : Nat → ByteArray} {M : Nat} : ∀ k, (∀ j, j < k → (T j).size ≤ M) → (cmJ T k).size ≤ (M + 1) * k
 | 0, _ => Nat.zero_le _
 | k + 1, h => by
   have ih := cmJ_size k (fun j hj => h j (by omega))
   have h1 := h k (by omega)
   rw [Nat.mul_add]
   by_cases h0 : k = 0
   ·rw [cmJ_one T h0, ByteArray.size_append]; omega
   ·rw [cmJ_more T h0, ByteArray.size_append, ByteArray.size_append, show (⟨#[44]⟩ : ByteArray).size = 1 from rfl]; omega
def cmL (T : Nat → ByteArray) (k : Nat) : List ByteArray := (List.range k).map T
theorem cmL_succ (T : Nat → ByteArray) (k : Nat) : cmL T (k + 1) = cmL T k ++ [T k] := by unfold cmL; rw [List.range_succ, List.map_append]; rfl
theorem cmL_len (T : Nat → ByteArray) (k : Nat) : (cmL T k).length = k := by unfold cmL; simp
theorem cmJ_join (T : Nat → ByteArray) : ∀ k, Lib.join ((cmL T k).map (·.data.toList)) [44] = (cmJ T k).data.toList
 | 0 => rfl
 | k + 1 => by
   have ih := cmJ_join T k
   rw [cmL_succ, List.map_append]
   by_cases h : k = 0
   ·subst h
    rw [cmJ_one T rfl]
    show Lib.join ([] ++ [(T 0).data.toList]) [44] = _
    rw [List.nil_append, Lib.join_one, dataApp]
    rfl
   ·rw [cmJ_more T h]
    show Lib.join (_ ++ [(T k).data.toList]) [44] = _
    rw [join_snoc _ _ _ (fun e => h (by have := congrArg List.length e; rw [List.length_map, cmL_len] at this; exact this)), ih]
    simp only [dataApp, List.append_assoc]
def dgJ (X : Nat → Int) : Nat → ByteArray
 | 0 => ⟨#[]⟩
 | k + 1 => dgJ X k ++ itB (X k)
theorem dgJ_size {X : Nat → Int} : ∀ k, (∀ j, j < k → I64 (X j)) → (dgJ X k).size ≤ 21 * k
 | 0, _ => Nat.zero_le _
 | k + 1, h => by
   have ih := dgJ_size k (fun j hj => h j (by omega))
   have h1 := itB_size (h k (by omega))
   show (dgJ X k ++ itB (X k)).size ≤ _
   rw [ByteArray.size_append]; omega
def noB (b : ByteArray) : ByteArray := if b.toList = [] then ⟨#[110, 111, 110, 101]⟩ else b
theorem noB_yes {b : ByteArray} (h : b.toList = []) : noB b = ⟨#[110, 111, 110, 101]⟩ := if_pos h
theorem noB_no {b : ByteArray} (h : ¬ b.toList = []) : noB b = b := if_neg h
theorem noB_size (b : ByteArray) : (noB b).size ≤ b.size + 4 := by
 unfold noB
 split
 ·show 4 ≤ _; omega
 ·omega
def edB (L : List (List Int)) : ByteArray := noB (cmJ (fun j => dgJ (fun i => (L.getD j []).getD i 0) (L.getD j []).length) L.length)
end Go.Proofs.YtppkokgiojcgbaaGreatDoor

/-
-/
namespace Go.Proofs.YtppkokgiojcgbaaGreatDoor
open Go.RowKit
def dgs (u : Nat) : List UInt8 := if u = 0 then [] else Lib.decDigits u
theorem dgs_zero : dgs 0 = [] := if_pos rfl
theorem dgs_step {u : Nat} (h : u ≠ 0) : dgs u = dgs (u / 10) ++ [UInt8.ofNat (48 + u % 10)] := by
 unfold dgs
 rw [if_neg h]
 by_cases h1 : u < 10
 ·rw [if_pos (by omega), Lib.decDigits_one h1, Nat.mod_eq_of_lt h1]; rfl
 ·rw [if_neg (by omega), Lib.decDigits, dif_neg h1]
theorem dgs_len {u : Nat} (h : u ≤ 9223372036854775808) : (dgs u).length ≤ 20 := by
 unfold dgs
 split
 ·exact Nat.zero_le _
 ·rw [Lib.decDigits_length]; exact Lib.nDigits_le20 u (by omega)
set_option maxRecDepth 100000 in
set_option maxHeartbeats 2000000 in
theorem FormatInt_sa (n : Int) (hn : I64 n) (w : World) : Calls Tryz.prog 49 #[.int .i64 n] w fun e w' => e = .returned (.string (itB n)) ∧ Below w.heap.size w w' := by
 have cv := conv1
 by_cases h0 : n = 0
 ·subst h0
  have HE : Hid (itB 0 = ⟨#[48]⟩) := by show _ = _; exact (itB_dg (d := 0) (by omega)).trans rfl
  go_enter Tryz.func49, Tryz.ntmps49
  go_wp2
  go_ret
  exact ⟨by rw [HE.out]; rfl, Below.refl _ _⟩
 obtain ⟨N, hN⟩ : ∃ N, N = dgs n.natAbs := ⟨_, rfl⟩
 have HN := Lib.hid hN
 have hNl : N.length ≤ 20 := by rw [hN]; exact dgs_len (by have := hn.1; have := hn.2; omega)
 clear hN
 obtain ⟨n1, n2⟩ := hn
 by_cases hs : n < 0
 ·have HE : Hid (itB n = ⟨#[45]⟩ ++ ⟨N.toArray⟩) := by
   show _ = _
   unfold itB Lib.itoa
   rw [if_pos hs, HN.out, dgs, if_neg (by omega)]
   rfl
  go_enter Tryz.func49, Tryz.ntmps49
  go_wp2
  go_loopw [0, 3] (fun i s wr => ∃ (m : Nat) (T : ByteArray), i = .int .i64 (-(m : Int)) ∧ s = .string T ∧ m ≤ 9223372036854775808 ∧ T.size ≤ 20 ∧ Hid (dgs m ++ T.data.toList = N) ∧ Hid (From w wr)) (fun i _ _ => (intOf i).natAbs)
  case atStart => exact ⟨n.natAbs, _, by rw [show -((n.natAbs : Nat) : Int) = n by omega], rfl, by omega, Nat.zero_le _, by show _ = _; rw [HN.out]; exact List.append_nil _, From.refl _⟩
  case round =>
   obtain ⟨m, T, rfl, rfl, hm, hT, HD, HB⟩ := hrel
   by_cases hz : m = 0
   ·subst hz
    have HT : Hid (T.data.toList = N) := by show _ = _; rw [← HD.out, dgs_zero]; rfl
    clear HD hm
    have hTT : Hid (T = ⟨N.toArray⟩) := by show _ = _; rw [← HT.out]
    clear HT
    go_wp2
    go_ret
    exact ⟨by rw [HE.out, ← hTT.out]; rfl, HB.out.below⟩
   ·have HS : Hid (dgs (m / 10) ++ (UInt8.ofNat (48 + m % 10) :: T.data.toList) = N) := by show _ = _; rw [← HD.out, dgs_step hz]; simp
    have hl : T.size + 1 ≤ 20 := by
     have := congrArg List.length HS.out
     have h2 : T.data.toList.length = T.size := by simp
     rw [List.length_append, List.length_cons] at this
     omega
    clear HD
    go_wp2
    all_goals
     refine ⟨⟨m / 10, _, congrArg (fun z => Value.int .i64 z) (by omega), rfl, by omega, by rw [ByteArray.size_append]; show 1 + T.size ≤ _; omega, ?_, HB.out.alloc_ _⟩, ?_⟩
     ·show _ = N
      rw [← HS.out, dataApp]
      refine congrArg (dgs (m / 10) ++ ·) ?_
      first
       | (show [UInt8.ofNat ((48 + -((m : Int) % 10)).toNat)] ++ T.data.toList = _
          rw [show (48 + -((m : Int) % 10)).toNat = 48 + m % 10 by omega]; rfl)
       | (show [UInt8.ofNat ((48 + (m : Int) % 10).toNat)] ++ T.data.toList = _
          rw [show (48 + (m : Int) % 10).toNat = 48 + m % 10 by omega]; rfl)
       | (rw [UInt8.ofNat_add]; rfl)
     ·show (-((m : Int) / 10)).natAbs < (-(m : Int)).natAbs
      omega
 ·have HE : Hid (itB n = ⟨N.toArray⟩) := by
   show _ = _
   unfold itB Lib.itoa
   rw [if_neg hs, HN.out, dgs, if_neg (by omega)]
   rw [show n.natAbs = n.toNat by omega]
  go_enter Tryz.func49, Tryz.ntmps49
  go_wp2
  go_loopw [0, 3] (fun i s wr => ∃ (m : Nat) (T : ByteArray), i = .int .i64 ((m : Int)) ∧ s = .string T ∧ m ≤ 9223372036854775807 ∧ T.size ≤ 20 ∧ Hid (dgs m ++ T.data.toList = N) ∧ Hid (From w wr)) (fun i _ _ => (intOf i).natAbs)
  case atStart => exact ⟨n.natAbs, _, by rw [show ((n.natAbs : Nat) : Int) = n by omega], rfl, by omega, Nat.zero_le _, by show _ = _; rw [HN.out]; exact List.append_nil _, From.refl _⟩
  case round =>
   obtain ⟨m, T, rfl, rfl, hm, hT, HD, HB⟩ := hrel
   by_cases hz : m = 0
   ·subst hz
    have HT : Hid (T.data.toList = N) := by show _ = _; rw [← HD.out, dgs_zero]; rfl
    clear HD hm
    have hTT : Hid (T = ⟨N.toArray⟩) := by show _ = _; rw [← HT.out]
    clear HT
    go_wp2
    go_ret
    exact ⟨by rw [HE.out, ← hTT.out]; rfl, HB.out.below⟩
   ·have HS : Hid (dgs (m / 10) ++ (UInt8.ofNat (48 + m % 10) :: T.data.toList) = N) := by show _ = _; rw [← HD.out, dgs_step hz]; simp
    have hl : T.size + 1 ≤ 20 := by
     have := congrArg List.length HS.out
     have h2 : T.data.toList.length = T.size := by simp
     rw [List.length_append, List.length_cons] at this
     omega
    clear HD
    go_wp2
    all_goals
     refine ⟨⟨m / 10, _, congrArg (fun z => Value.int .i64 z) (by omega), rfl, by omega, by rw [ByteArray.size_append]; show 1 + T.size ≤ _; omega, ?_, HB.out.alloc_ _⟩, ?_⟩
     ·show _ = N
      rw [← HS.out, dataApp]
      refine congrArg (dgs (m / 10) ++ ·) ?_
      first
       | (show [UInt8.ofNat ((48 + -((m : Int) % 10)).toNat)] ++ T.data.toList = _
          rw [show (48 + -((m : Int) % 10)).toNat = 48 + m % 10 by omega]; rfl)
       | (show [UInt8.ofNat ((48 + (m : Int) % 10).toNat)] ++ T.data.toList = _
          rw [show (48 + (m : Int) % 10).toNat = 48 + m % 10 by omega]; rfl)
       | (rw [UInt8.ofNat_add]; rfl)
     ·show (((m : Int) / 10)).natAbs < ((m : Int)).natAbs
      omega
end Go.Proofs.YtppkokgiojcgbaaGreatDoor

/-
-/
namespace Go.Proofs.YtppkokgiojcgbaaGreatDoor
open Go.Shelf Go.RowKit
def layJoin_ren : Go.Shelf.Ren := ⟨fun | 156 => 86 | 165 => 147 | 166 => 148 | 169 => 149 | 240 => 203 | 241 => 204 | 276 => 250 | 277 => 251 | n => n, fun | 31 => 92 | 9 => 9 | 3 => 3 | 4 => 4 | 0 => 0 | 20 => 20 | 72 => 129 | 76 => 133 | 70 => 127 | 37 => 38 | 75 => 132 | 127 => 158 | 164 => 180 | 5 => 5 | 80 => 135 | n => n, fun | n => n⟩
theorem layJoin : Go.Proofs.Lays.n156 Tryz.prog layJoin_ren := {
 mixed := by kernel_rfl
 f156 := Tryz.func86.trans (congrArg some (by kernel_rfl))
 f165 := Tryz.func147.trans (congrArg some (by kernel_rfl))
 f166 := Tryz.func148.trans (congrArg some (by kernel_rfl))
 f169 := Tryz.func149.trans (congrArg some (by kernel_rfl))
 f240 := Tryz.func203.trans (congrArg some (by kernel_rfl))
 f241 := Tryz.func204.trans (congrArg some (by kernel_rfl))
 f276 := Tryz.func250.trans (congrArg some (by kernel_rfl))
 f277 := Tryz.func251.trans (congrArg some (by kernel_rfl))
 t0 := Tryz.underlying0
 a0 := Tryz.isAgg0
 z0 := Tryz.sizeOf0
 v0 := Tryz.zeroValue0
 t3 := Tryz.underlying3
 a3 := Tryz.isAgg3
 z3 := Tryz.sizeOf3
 v3 := Tryz.zeroValue3
 t4 := Tryz.underlying4
 a4 := Tryz.isAgg4
 z4 := Tryz.sizeOf4
 v4 := Tryz.zeroValue4
 t9 := Tryz.underlying9
 a9 := Tryz.isAgg9
 z9 := Tryz.sizeOf9
 v9 := Tryz.zeroValue9
 t20 := Tryz.underlying20
 a20 := Tryz.isAgg20
 z20 := Tryz.sizeOf20
 v20 := Tryz.zeroValue20
 t31 := Tryz.underlying92
 a31 := Tryz.isAgg92
 z31 := Tryz.sizeOf92
 v31 := Tryz.zeroValue92
 t37 := Tryz.underlying38
 a37 := Tryz.isAgg38
 z37 := Tryz.sizeOf38
 v37 := Tryz.zeroValue38
 t70 := Tryz.underlying127
 a70 := Tryz.isAgg127
 z70 := Tryz.sizeOf127
 v70 := Tryz.zeroValue127
 t72 := Tryz.underlying129
 a72 := Tryz.isAgg129
 z72 := Tryz.sizeOf129
 v72 := Tryz.zeroValue129
 t75 := Tryz.underlying132
 a75 := Tryz.isAgg132
 z75 := Tryz.sizeOf132
 v75 := Tryz.zeroValue132
 t76 := Tryz.underlying133
 a76 := Tryz.isAgg133
 z76 := Tryz.sizeOf133
 v76 := Tryz.zeroValue133
 t127 := Tryz.underlying158
 a127 := Tryz.isAgg158
 z127 := Tryz.sizeOf158
 v127 := Tryz.zeroValue158
 t164 := Tryz.underlying180
 a164 := Tryz.isAgg180
 z164 := Tryz.sizeOf180
 v164 := Tryz.zeroValue180 }
def layItoa_ren : Go.Shelf.Ren := ⟨fun | 171 => 114 | 243 => 168 | 246 => 215 | 283 => 257 | 284 => 258 | 285 => 259 | 286 => 260 | 129 => 284 | 317 => 283 | 318 => 285 | 319 => 286 | 320 => 287 | 337 => 296 | 338 => 297 | n => n, fun | 3 => 3 | 9 => 9 | 2 => 2 | 4 => 4 | 171 => 187 | 0 => 0 | 53 => 188 | 37 => 38 | 5 => 5 | 173 => 191 | 212 => 196 | 51 => 197 | 20 => 20 | 213 => 198 | 46 => 161 | 232 => 211 | 233 => 212 | n => n, fun | 17 => 1 | 18 => 4 | 19 => 5 | n => n⟩
theorem layItoa : Go.Proofs.Lays.n171 Tryz.prog layItoa_ren := {
 mixed := by kernel_rfl
 f129 := Tryz.func284.trans (congrArg some (by kernel_rfl))
 f171 := Tryz.func114.trans (congrArg some (by kernel_rfl))
 f243 := Tryz.func168.trans (congrArg some (by kernel_rfl))
 f246 := Tryz.func215.trans (congrArg some (by kernel_rfl))
 f283 := Tryz.func257.trans (congrArg some (by kernel_rfl))
 f284 := Tryz.func258.trans (congrArg some (by kernel_rfl))
 f285 := Tryz.func259.trans (congrArg some (by kernel_rfl))
 f286 := Tryz.func260.trans (congrArg some (by kernel_rfl))
 f317 := Tryz.func283.trans (congrArg some (by kernel_rfl))
 f318 := Tryz.func285.trans (congrArg some (by kernel_rfl))
 f319 := Tryz.func286.trans (congrArg some (by kernel_rfl))
 f320 := Tryz.func287.trans (congrArg some (by kernel_rfl))
 f337 := Tryz.func296.trans (congrArg some (by kernel_rfl))
 f338 := Tryz.func297.trans (congrArg some (by kernel_rfl))
 t0 := Tryz.underlying0
 a0 := Tryz.isAgg0
 z0 := Tryz.sizeOf0
 v0 := Tryz.zeroValue0
 t2 := Tryz.underlying2
 a2 := Tryz.isAgg2
 z2 := Tryz.sizeOf2
 v2 := Tryz.zeroValue2
 t3 := Tryz.underlying3
 a3 := Tryz.isAgg3
 z3 := Tryz.sizeOf3
 v3 := Tryz.zeroValue3
 t4 := Tryz.underlying4
 a4 := Tryz.isAgg4
 z4 := Tryz.sizeOf4
 v4 := Tryz.zeroValue4
 t5 := Tryz.underlying5
 a5 := Tryz.isAgg5
 z5 := Tryz.sizeOf5
 v5 := Tryz.zeroValue5
 t9 := Tryz.underlying9
 a9 := Tryz.isAgg9
 z9 := Tryz.sizeOf9
 v9 := Tryz.zeroValue9
 t20 := Tryz.underlying20
 a20 := Tryz.isAgg20
 z20 := Tryz.sizeOf20
 v20 := Tryz.zeroValue20
 t37 := Tryz.underlying38
 a37 := Tryz.isAgg38
 z37 := Tryz.sizeOf38
 v37 := Tryz.zeroValue38
 t46 := Tryz.underlying161
 a46 := Tryz.isAgg161
 z46 := Tryz.sizeOf161
 v46 := Tryz.zeroValue161
 t51 := Tryz.underlying197
 a51 := Tryz.isAgg197
 z51 := Tryz.sizeOf197
 v51 := Tryz.zeroValue197
 t53 := Tryz.underlying188
 a53 := Tryz.isAgg188
 z53 := Tryz.sizeOf188
 v53 := Tryz.zeroValue188
 t171 := Tryz.underlying187
 a171 := Tryz.isAgg187
 z171 := Tryz.sizeOf187
 v171 := Tryz.zeroValue187
 t173 := Tryz.underlying191
 a173 := Tryz.isAgg191
 z173 := Tryz.sizeOf191
 v173 := Tryz.zeroValue191
 t212 := Tryz.underlying196
 a212 := Tryz.isAgg196
 z212 := Tryz.sizeOf196
 v212 := Tryz.zeroValue196
 t213 := Tryz.underlying198
 a213 := Tryz.isAgg198
 z213 := Tryz.sizeOf198
 t232 := Tryz.underlying211
 a232 := Tryz.isAgg211
 z232 := Tryz.sizeOf211
 v232 := Tryz.zeroValue211
 t233 := Tryz.underlying212
 a233 := Tryz.isAgg212
 z233 := Tryz.sizeOf212
 v233 := Tryz.zeroValue212
 g17 := by kernel_rfl
 g18 := by kernel_rfl
 g19 := by kernel_rfl }
theorem layExtra : Builder.Extra Tryz.prog layJoin_ren := {
 sizeBuilder := by kernel_rfl
 liesBuilder := by kernel_rfl
 t5 := Tryz.underlying5
 a5 := Tryz.isAgg5
 z5 := Tryz.sizeOf5
 v5 := Tryz.zeroValue5
 infoByte := by kernel_rfl
 cellsByte := by kernel_rfl
 sizeByte := by kernel_rfl
 neB5 := by decide }
theorem join_any (bk o c : Nat) (xs : List ByteArray) (sep : ByteArray) (w : World)
 (hcells : ∀ (j : Nat) x, xs[j]? = some x → w.cell? ⟨bk, o + j, none⟩ = some (.string x))
 (hbk : bk < w.heap.size) (hN : xs.length ≤ 140737488355328) (hcap : xs.length ≤ c)
 (hlen : (Lib.join (xs.map (·.data.toList)) sep.data.toList).length ≤ 140737488355328) :
 Calls Tryz.prog 86 #[.slice (some ⟨bk, o, none⟩) xs.length c, .string sep] w fun e w' => e = .returned (.string ⟨(Lib.join (xs.map (·.data.toList)) sep.data.toList).toArray⟩) ∧ Below w.heap.size w w' := Any.strings_Join layJoin layExtra bk o c xs sep w hcells hbk hN hcap hlen
end Go.Proofs.YtppkokgiojcgbaaGreatDoor

/-
-/
namespace Go.Proofs.YtppkokgiojcgbaaGreatDoor
open Go.Shelf Go.RowKit
theorem layItoaM : Go.Proofs.LaysM.n171 Tryz.prog layItoa_ren := { layItoa with
 i0 := by kernel_rfl
 i2 := by kernel_rfl
 i3 := by kernel_rfl
 i4 := by kernel_rfl
 i5 := by kernel_rfl
 i9 := by kernel_rfl
 i20 := by kernel_rfl
 i37 := by kernel_rfl
 i46 := by kernel_rfl
 i51 := by kernel_rfl
 i53 := by kernel_rfl
 i171 := by kernel_rfl
 i173 := by kernel_rfl
 i212 := by kernel_rfl
 i232 := by kernel_rfl
 i233 := by kernel_rfl
 m17 := by kernel_rfl
 m18 := by kernel_rfl
 m19 := by kernel_rfl }
def Tb (w : World) : Prop := Lib.TabIs Tryz.prog w "internal/strconv.uint64pow10" .u64 Lib.pow10Tab
theorem Tb.keep {w w' : World} (h : Tb w) (hb : Below w.heap.size w w') : Tb w' := by
 have hg : Tryz.prog.globalNamed "internal/strconv.uint64pow10" = some (layItoa_ren.g 17) := layItoaM.m17
 unfold Tb Lib.TabIs World.var? at h ⊢
 rw [hg] at h ⊢
 simp only [Option.bind_some] at h ⊢
 have hlt : layItoa_ren.g 17 < w.heap.size := by
  rcases Nat.lt_or_ge (layItoa_ren.g 17) w.heap.size with h' | h'
  ·exact h'
  ·rw [Array.getElem?_eq_none h'] at h; cases h
 rw [hb.block _ hlt]
 exact h
theorem grow_from (w : World) (q : Nat) (os : Array Obj) : Below w.heap.size w (Sort.grow (w.drewN q) os) :=
 ⟨rfl, rfl, rfl, by first | (simp [Sort.grow]; done) | (simp [Sort.grow]; omega), fun i hi => by
   show ((w.drewN q).heap ++ os)[i]? = _
   rw [Array.getElem?_append_left (by show i < w.heap.size; omega)]
   rfl⟩
theorem FormatInt_ia (n : Int) (hn : I64 n) (w : World) (ht : Tb w) : Calls Tryz.prog 55 #[.int .i64 n] w fun e w' => e = .returned (.string (itB n)) ∧ Below w.heap.size w w' := by
 have K : Hid (Calls Tryz.prog 114 #[.int .i64 n] w fun e w' => e = .returned (.string (itB n)) ∧ Below w.heap.size w w') :=
  (Any.strconv_Itoa layItoaM n hn.1 hn.2 w ht).mono fun e w' ⟨he, k, os, hw⟩ => ⟨he, by rw [hw]; exact grow_from w k os⟩
 clear hn ht
 go_enter Tryz.func55, Tryz.ntmps55
 go_wp2_with fail
 refine K.out.mono ?_
 rintro e w1 ⟨rfl, hb1⟩
 go_wp2
 go_ret
 exact ⟨rfl, hb1⟩
theorem FormatInt_sm (n : Int) (h0 : 0 ≤ n) (h1 : n < 10) (w : World) : Calls Tryz.prog 49 #[.int .i64 n] w fun e w' => e = .returned (.string (itB n)) ∧ Below w.heap.size w w' := by
 obtain ⟨d, rfl⟩ : ∃ d : Nat, n = d := ⟨n.toNat, by omega⟩
 rw [itB_dg (by omega)]
 exact FormatInt_s1 d (by omega) w
end Go.Proofs.YtppkokgiojcgbaaGreatDoor

/-
-/
namespace Go.Proofs.YtppkokgiojcgbaaGreatDoor
open Go.RowKit
def stL (l : List ByteArray) (j : Nat) : Value := .string (l.getD j ⟨#[]⟩)
theorem stL_left {l : List ByteArray} {k : ByteArray} {j : Nat} (h : j < l.length) : stL (l ++ [k]) j = stL l j := by
 unfold stL
 simp [List.getD, List.getElem?_append_left h]
theorem stL_news {l : List ByteArray} {k : ByteArray} : ∀ i, i < 1 → (#[Value.string k] : Array Value)[i]? = some (stL (l ++ [k]) (l.length * 1 + i)) := by
 intro i hi
 have h0 : i = 0 := by omega
 subst h0
 unfold stL
 simp [List.getD]
end Go.Proofs.YtppkokgiojcgbaaGreatDoor

/-
-/
namespace Go.Proofs.YtppkokgiojcgbaaGreatDoor
open Go.RowKit
theorem stL_own0 (w : World) : Own (w.alloc (Obj.cells #[] 9)) w.heap.size (w.alloc (Obj.cells #[] 9)).heap.size 9 1 (some ⟨w.heap.size, 0, none⟩) 0 0 (stL []) :=
 .inr ⟨w.heap.size, #[], rfl, Nat.le_refl _, by simp, heap_alloc_new w _, Nat.le_refl _, by unfold maxLen; omega, rfl, fun j hj => absurd hj (by omega)⟩
end Go.Proofs.YtppkokgiojcgbaaGreatDoor
