/-
  Several texts in one.
-/
import Derived.Test.YtdpkbfiggbcclaaGreatQkBest
import Derived.Test.YtdpkbfiggbcclaaGreatQkSetG
import Derived.Test.YtdpkbfiggbcclaaGreatQkModI
import Derived.Test.YtdpkbfiggbcclaaGreatQkUmbI
import Derived.Test.YtdpkbfiggbcclaaGreatQkJoinI
import Derived.Test.YtdpkbfiggbcclaaGreatQkTake
import Derived.Test.YtdpkbfiggbcclaaGreatQkLater
import Derived.Test.YtdpkbfiggbcclaaGreatQkOdd
import Derived.Test.YtdpkbfiggbcclaaGreatQkMdfI
import Derived.Test.YtdpkbfiggbcclaaGreatQkObForI
import Derived.Test.YtdpkbfiggbcclaaGreatQkIclI
import Derived.Test.YtdpkbfiggbcclaaGreatQkIcvI
import Derived.Test.YtdpkbfiggbcclaaGreatQkDifP
import Derived.Shelf.Sort.Plain
import Derived.Shelf.Slices.CompactI
import Derived.Test.YtdpkbfiggbcclaaGreatQkGA
import Derived.Sort.OwnSortedInts
/-
-/
namespace Go.Proofs.YtdpkbfiggbcclaaGreat
open Go.RowKit
section
variable {n0 s n m : Nat} {f : Nat → Option (List Nat)}
end
/-! The obstacles, over lists of vertices. -/
abbrev zl (l : List Nat) : List Int := l.map fun v : Nat => (v : Int)
theorem zl_getD (l : List Nat) (i : Nat) : (zl l).getD i 0 = ((l.getD i 0 : Nat) : Int) := by
 simp only [zl, List.getD_eq_getElem?_getD, List.getElem?_map]
 cases l[i]? <;> rfl
theorem zl_len (l : List Nat) : (zl l).length = l.length := List.length_map ..
section
variable (r : Nat → Nat) (m : Nat)
end
section
variable {r : Nat → Nat} {m : Nat} {J K : Nat → Nat → Bool} {l a : List Nat}
/-! The reference's tests on the way. -/
end
end Go.Proofs.YtdpkbfiggbcclaaGreat

/-
-/
namespace Go.Proofs.YtdpkbfiggbcclaaGreat
open Go.RowKit
structure KR (w : World) (q : Nat) (K sz : Int) (A : Option Addr) (m c : Nat) (str : ByteArray) (A1 : Option Addr) (n1 c1 : Nat) (A2 : Option Addr) (n2 c2 : Nat) (A3 : Option Addr) (n3 c3 : Nat) : Prop where
 c0 : w.cell? ⟨q, 0, none⟩ = some (.int .i64 K)
 c1_ : w.cell? ⟨q, 1, none⟩ = some (.int .i64 sz)
 c2_ : w.cell? ⟨q, 2, none⟩ = some (.slice A m c)
 c3_ : w.cell? ⟨q, 3, none⟩ = some (.string str)
 c4_ : w.cell? ⟨q, 4, none⟩ = some (.slice A1 n1 c1)
 c5_ : w.cell? ⟨q, 5, none⟩ = some (.slice A2 n2 c2)
 c6_ : w.cell? ⟨q, 6, none⟩ = some (.slice A3 n3 c3)
theorem KR.keep {w w' : World} {q : Nat} {K sz : Int} {A : Option Addr} {m c : Nat} {str : ByteArray} {A1 : Option Addr} {n1 c1 : Nat} {A2 : Option Addr} {n2 c2 : Nat} {A3 : Option Addr} {n3 c3 : Nat} (h : KR w q K sz A m c str A1 n1 c1 A2 n2 c2 A3 n3 c3) (hb : Below w.heap.size w w') : KR w' q K sz A m c str A1 n1 c1 A2 n2 c2 A3 n3 c3 :=
 ⟨up_ hb h.c0, up_ hb h.c1_, up_ hb h.c2_, up_ hb h.c3_, up_ hb h.c4_, up_ hb h.c5_, up_ hb h.c6_⟩
structure EDG (w : World) (A : Option Addr) (c : Nat) (D : List Dsc) : Prop where
 rd : RdD w w.heap.size A c D
theorem EDG.keep {w w' : World} {A : Option Addr} {c : Nat} {D : List Dsc} (h : EDG w A c D) (hb : Below w.heap.size w w') : EDG w' A c D := ⟨h.rd.keep hb hb.size⟩
noncomputable def ckcB (K sz : Int) (m : Nat) (x : Nat → Int) (s : List UInt8) (l1 l2 : List Int) (L : List (List Int)) : Bool :=
 if K = 1 then mfB sz m x s l1 l2 else if K = 2 then obB sz m x s l1 else if K = 5 then imfB sz m x L else if l2.length ≠ 1 then false
 else if K = 3 then (iclG sz m x l1 && clqG sz m x (l2.getD 0 0)) && decide (dfN l1 = cn (l2.getD 0 0).toNat)
 else if K = 4 then (icvG sz m x l1 && indG sz m x (l2.getD 0 0)) && decide (l1.length = cn (l2.getD 0 0).toNat)
 else if K = 6 then ((decide (l1.length = 1) && domG sz m x (l1.getD 0 0)) && pakG sz m x (l2.getD 0 0)) && decide (cn (l1.getD 0 0).toNat = cn (l2.getD 0 0).toNat)
 else false
theorem indG_set {sz : Int} {m : Nat} {x : Nat → Int} {a : Int} (h : indG sz m x a = true) : okB sz m x = true ∧ sz = m ∧ ∃ k : Nat, a = k ∧ k < 2 ^ m := by
 unfold indG at h; rw [Bool.and_eq_true] at h; exact setB_parts h.1
theorem domG_set {sz : Int} {m : Nat} {x : Nat → Int} {a : Int} (h : domG sz m x a = true) : okB sz m x = true ∧ sz = m ∧ ∃ k : Nat, a = k ∧ k < 2 ^ m := by
 unfold domG at h; rw [Bool.and_eq_true] at h; exact setB_parts h.1
theorem pakG_set {sz : Int} {m : Nat} {x : Nat → Int} {a : Int} (h : pakG sz m x a = true) : okB sz m x = true ∧ sz = m ∧ ∃ k : Nat, a = k ∧ k < 2 ^ m := by
 unfold pakG at h; rw [Bool.and_eq_true] at h; exact setB_parts h.1
theorem set128 {sz : Int} {m : Nat} {x : Nat → Int} {k : Nat} (ho : okB sz m x = true) (hk : k < 2 ^ m) : k < 128 := by
 obtain ⟨_, _, vg, _⟩ := okB_ok' ho
 exact Nat.lt_of_lt_of_le hk (two_pow_le vg.n7)
theorem col_nats {sz : Int} {m : Nat} {x : Nat → Int} {l : List Int} (h : iclG sz m x l = true) : ∃ L : List Nat, l = zl L ∧ L.length = l.length ∧ 0 < L.length ∧ L.length ≤ 7 := by
 obtain ⟨ho, hl, h1⟩ := iclG_parts h
 obtain ⟨_, _, vg, _⟩ := okB_ok' ho
 refine ⟨l.map Int.toNat, ?_, by simp, by rw [List.length_map, hl]; exact vg.n1, by rw [List.length_map, hl]; exact vg.n7⟩
 apply List.ext_getElem
 ·simp
 ·intro i hi hj
  have := (h1 i (by omega)).1
  rw [List.getD_eq_getElem?_getD, List.getElem?_eq_getElem hi] at this
  simp only [zl, List.getElem_map]
  have h0 : 0 ≤ l[i] := this
  omega
theorem LI.zl {w : World} {A : Option Addr} {n c : Nat} {L : List Nat} (h : LI w A n c (zl L)) : LN w A c L := by
 have hn : n = L.length := by rw [h.len, zl_len]
 subst hn
 exact ⟨h.rd.congr fun k _ => by rw [zl_getD]⟩
end Go.Proofs.YtdpkbfiggbcclaaGreat

/-
-/
namespace Go.Proofs.YtdpkbfiggbcclaaGreat
open Go.Shelf Go.Sort Go.RowKit
def laySort_ren : Go.Shelf.Ren := ⟨fun | 189 => 348 | 125 => 389 | 257 => 388 | 128 => 411 | 129 => 412 | 294 => 402 | 295 => 403 | 296 => 404 | 297 => 405 | 298 => 406 | 299 => 407 | 216 => 408 | 300 => 409 | 301 => 410 | 328 => 417 | 329 => 418 | 330 => 419 | 331 => 420 | 332 => 421 | 215 => 422 | 343 => 424 | n => n, fun | 28 => 22 | 3 => 3 | 46 => 184 | 0 => 0 | 51 => 203 | 53 => 205 | 4 => 4 | 183 => 197 | 182 => 196 | 131 => 87 | 5 => 5 | 9 => 9 | 218 => 208 | 222 => 212 | 228 => 215 | 229 => 216 | n => n, fun | n => n⟩
theorem laySort : Go.Proofs.Lays.n189 Tryz.prog laySort_ren := {
 mixed := by kernel_rfl
 f125 := Tryz.func389.trans (congrArg some (by kernel_rfl))
 f128 := Tryz.func411.trans (congrArg some (by kernel_rfl))
 f129 := Tryz.func412.trans (congrArg some (by kernel_rfl))
 f189 := Tryz.func348.trans (congrArg some (by kernel_rfl))
 f215 := Tryz.func422.trans (congrArg some (by kernel_rfl))
 f216 := Tryz.func408.trans (congrArg some (by kernel_rfl))
 f257 := Tryz.func388.trans (congrArg some (by kernel_rfl))
 f294 := Tryz.func402.trans (congrArg some (by kernel_rfl))
 f295 := Tryz.func403.trans (congrArg some (by kernel_rfl))
 f296 := Tryz.func404.trans (congrArg some (by kernel_rfl))
 f297 := Tryz.func405.trans (congrArg some (by kernel_rfl))
 f298 := Tryz.func406.trans (congrArg some (by kernel_rfl))
 f299 := Tryz.func407.trans (congrArg some (by kernel_rfl))
 f300 := Tryz.func409.trans (congrArg some (by kernel_rfl))
 f301 := Tryz.func410.trans (congrArg some (by kernel_rfl))
 f328 := Tryz.func417.trans (congrArg some (by kernel_rfl))
 f329 := Tryz.func418.trans (congrArg some (by kernel_rfl))
 f330 := Tryz.func419.trans (congrArg some (by kernel_rfl))
 f331 := Tryz.func420.trans (congrArg some (by kernel_rfl))
 f332 := Tryz.func421.trans (congrArg some (by kernel_rfl))
 f343 := Tryz.func424.trans (congrArg some (by kernel_rfl))
 t0 := Tryz.underlying0
 a0 := Tryz.isAgg0
 z0 := Tryz.sizeOf0
 v0 := Tryz.zeroValue0
 t3 := Tryz.underlying3
 a3 := Tryz.isAgg3
 z3 := Tryz.sizeOf3
 v3 := Tryz.zeroValue3
 t4 := Tryz.underlying4
 a4 := Tryz.isAgg4
 z4 := Tryz.sizeOf4
 v4 := Tryz.zeroValue4
 t5 := Tryz.underlying5
 a5 := Tryz.isAgg5
 z5 := Tryz.sizeOf5
 v5 := Tryz.zeroValue5
 t9 := Tryz.underlying9
 a9 := Tryz.isAgg9
 z9 := Tryz.sizeOf9
 v9 := Tryz.zeroValue9
 t28 := Tryz.underlying22
 a28 := Tryz.isAgg22
 z28 := Tryz.sizeOf22
 v28 := Tryz.zeroValue22
 t46 := Tryz.underlying184
 a46 := Tryz.isAgg184
 z46 := Tryz.sizeOf184
 v46 := Tryz.zeroValue184
 t51 := Tryz.underlying203
 a51 := Tryz.isAgg203
 z51 := Tryz.sizeOf203
 v51 := Tryz.zeroValue203
 t53 := Tryz.underlying205
 a53 := Tryz.isAgg205
 z53 := Tryz.sizeOf205
 v53 := Tryz.zeroValue205
 t131 := Tryz.underlying87
 a131 := Tryz.isAgg87
 z131 := Tryz.sizeOf87
 v131 := Tryz.zeroValue87
 t182 := Tryz.underlying196
 a182 := Tryz.isAgg196
 z182 := Tryz.sizeOf196
 v182 := Tryz.zeroValue196
 t183 := Tryz.underlying197
 a183 := Tryz.isAgg197
 z183 := Tryz.sizeOf197
 v183 := Tryz.zeroValue197
 t218 := Tryz.underlying208
 a218 := Tryz.isAgg208
 z218 := Tryz.sizeOf208
 v218 := Tryz.zeroValue208
 t222 := Tryz.underlying212
 a222 := Tryz.isAgg212
 z222 := Tryz.sizeOf212
 v222 := Tryz.zeroValue212
 t228 := Tryz.underlying215
 a228 := Tryz.isAgg215
 z228 := Tryz.sizeOf215
 v228 := Tryz.zeroValue215
 t229 := Tryz.underlying216
 a229 := Tryz.isAgg216
 z229 := Tryz.sizeOf216
 v229 := Tryz.zeroValue216 }
def layCompact_ren : Go.Shelf.Ren := ⟨fun | 20 => 265 | n => n, fun | 22 => 22 | 3 => 3 | 4 => 4 | 0 => 0 | n => n, fun | n => n⟩
theorem layCompact : Go.Proofs.Lays2.n20 Tryz.prog layCompact_ren := {
 mixed := by kernel_rfl
 f20 := Tryz.func265.trans (congrArg some (by kernel_rfl))
 t0 := Tryz.underlying0
 a0 := Tryz.isAgg0
 z0 := Tryz.sizeOf0
 v0 := Tryz.zeroValue0
 t3 := Tryz.underlying3
 a3 := Tryz.isAgg3
 z3 := Tryz.sizeOf3
 v3 := Tryz.zeroValue3
 t4 := Tryz.underlying4
 a4 := Tryz.isAgg4
 z4 := Tryz.sizeOf4
 v4 := Tryz.zeroValue4
 t22 := Tryz.underlying22
 a22 := Tryz.isAgg22
 z22 := Tryz.sizeOf22
 v22 := Tryz.zeroValue22
 i3 := by kernel_rfl }
theorem sort_int (blk off cap : Nat) (zs : List Int) (w : World) (hH : Holds (Value.int .i64) w blk off zs.toArray) (hblk : blk < w.heap.size) (hsz : zs.length < 4611686018427387904) :
 Calls Tryz.prog 348 #[.slice (some ⟨blk, off, none⟩) zs.length cap] w fun e w' =>
  e = .returned (.tuple #[]) ∧ ∃ n os, w' = grow (putRow (Value.int .i64) (Sort.ahead w n) blk off (zs.mergeSort fun x y => decide (x ≤ y)).toArray) os := Any.slices_Sort_int laySort blk off cap zs w hH hblk hsz
theorem compact_int (blk off cap : Nat) (zs : List Int) (w : World) (hH : Holds (Value.int .i64) w blk off zs.toArray) (hsz : zs.length ≤ 9223372036854775807) (hcap : zs.length ≤ cap) :
 Calls Tryz.prog 265 #[.slice (some ⟨blk, off, none⟩) zs.length cap] w fun e w' => e = .returned (.slice (some ⟨blk, off, none⟩) (Lib.compact zs).length cap) ∧ ∃ q, w' = putRow (Value.int .i64) (Sort.ahead w q) blk off (Lib.compact zs ++ List.replicate (zs.length - (Lib.compact zs).length) 0).toArray := Any.slices_Compact_int layCompact blk off cap zs w hH hsz hcap
end Go.Proofs.YtdpkbfiggbcclaaGreat

/-
-/
namespace Go.Proofs.YtdpkbfiggbcclaaGreat
open Go.RowKit Go.Sort
theorem own_holds {w : World} {lo hi g n c : Nat} {e : TypeId} {ss : List Int} (h : Own w lo hi e 1 (some ⟨g, 0, none⟩) n c (fun j => .int .i64 (ss.getD j 0))) (hn : n = ss.length) : Holds (Value.int .i64) w g 0 ss.toArray := by
 intro j hj
 have hj' : j < ss.length := by simpa using hj
 obtain ⟨g', e1, _, _, _, hc, hf⟩ := h.at_ (by omega)
 simp only [Option.some.injEq, Addr.mk.injEq, and_true] at e1
 subst e1
 refine ⟨?_, hf _⟩
 rw [Nat.zero_add, hc j (by omega)]
 simp [hj', List.getD]
theorem below_put {w w1 : World} {q g : Nat} (h : Below q w w1) (hq : q ≤ g) (d : Array Int) (k : Nat) (os : Array Obj) (hw : q ≤ w1.heap.size) : Below q w (grow (putRow (Value.int .i64) (Sort.ahead w1 k) g 0 d) os) :=
 h.grown (grownBy_sortedI (w := w1) (n := k) (os := os) (g := g) d) hw (fun j hj => by
  simp only [Option.some.injEq] at hj
  omega)
theorem zs_own {w : World} {lo hi g c : Nat} {L : List Nat} (h : Own w lo hi 3 1 (some ⟨g, 0, none⟩) L.length c (ni L)) : Own w lo hi 3 1 (some ⟨g, 0, none⟩) L.length c (fun j => .int .i64 ((zl L).getD j 0)) :=
 h.congr fun j hj => by
  unfold ni
  rw [zl_getD]
set_option maxRecDepth 100000 in
set_option maxHeartbeats 1600000 in
theorem sorted_n {Al : Option Addr} {cl : Nat} {L : List Nat} {w : World} (h : LN w Al cl L) (h0 : 0 < L.length) (hlen : L.length ≤ 7) :
 Calls Tryz.prog 266 #[.slice Al L.length cl] w fun e w' => ∃ g c', w.heap.size ≤ g ∧ e = .returned (.slice (some ⟨g, 0, none⟩) L.length c') ∧ L.length ≤ c' ∧ Holds (Value.int .i64) w' g 0 ((zl L).mergeSort fun x y => decide (x ≤ y)).toArray ∧ Below w.heap.size w w' := by
 obtain ⟨b, o, rfl⟩ := h.addr h0
 have KC := Lib.hid (clone_n b o cl L w h.rd (List.length_pos_iff.1 h0) hlen)
 have HB0 : Hid (From w w) := From.refl w
 clear h
 go_enter Tryz.func266, Tryz.ntmps266
 go_wp2_with fail
 refine KC.out.mono ?_
 rintro e w1 ⟨g, c', rfl, ho, hb1⟩
 obtain ⟨g', cur, e1, hg1, hg2, hg3, hnc, hcm, hcs, hx⟩ : ∃ g' cur, some ({ block := g, off := 0 } : Addr) = some ⟨g', 0, none⟩ ∧ w.heap.size ≤ g' ∧ g' < w1.heap.size ∧ w1.heap[g']? = some (.cells cur 3 (0, 0)) ∧ L.length ≤ c' ∧ c' ≤ maxLen ∧ cur.size = c' * 1 ∧ ∀ j, j < L.length * 1 → cur[j]? = some (ni L j) := by
  rcases ho with ⟨h, _⟩ | h
  ·cases h
  ·exact h
 simp only [Option.some.injEq, Addr.mk.injEq, and_true] at e1
 subst e1
 have hz : (zl L).length = L.length := zl_len L
 have HH : Hid (Holds (Value.int .i64) w1 g 0 (zl L).toArray) := own_holds (zs_own ho) hz.symm
 have KS := Lib.hid (sort_int g 0 c' (zl L) w1 HH.out hg2 (by omega))
 rw [hz] at KS
 have HB1 : Hid (From w w1) := ⟨hb1⟩
 have hms : ((zl L).mergeSort fun x y => decide (x ≤ y)).length = (zl L).length := by simp
 have HR : Hid (∀ (k : Nat) (os : Array Obj), Holds (Value.int .i64) (grow (putRow (Value.int .i64) (Sort.ahead w1 k) g 0 ((zl L).mergeSort fun x y => decide (x ≤ y)).toArray) os) g 0 ((zl L).mergeSort fun x y => decide (x ≤ y)).toArray) := fun k os => by
  have h1 := heap_sortedI (n := k) (os := os) ((zl L).mergeSort fun x y => decide (x ≤ y)).toArray hg3
  exact holds_of_blockI h1 (take_putCellsI cur _ (by omega))
 have HP : Hid (∀ (k : Nat) (os : Array Obj), Below w.heap.size w (grow (putRow (Value.int .i64) (Sort.ahead w1 k) g 0 ((zl L).mergeSort fun x y => decide (x ≤ y)).toArray) os)) := fun k os => below_put hb1 hg1 _ _ _ hb1.size
 clear ho hb1 hx hcs hg3 hms hz
 go_wp2_with fail
 refine KS.out.mono ?_
 rintro e w2 ⟨rfl, k, os, rfl⟩
 go_wp2
 go_ret
 exact ⟨g, c', hg1, rfl, hnc, HR.out k os, HP.out k os⟩
set_option maxRecDepth 100000 in
set_option maxHeartbeats 1600000 in
theorem different_n {Al : Option Addr} {cl : Nat} {L : List Nat} {w : World} (h : LN w Al cl L) (h0 : 0 < L.length) (hlen : L.length ≤ 7) :
 Calls Tryz.prog 132 #[.slice Al L.length cl] w fun e w' => e = .returned (.int .i64 (dfN (zl L) : Nat)) ∧ Below w.heap.size w w' := by
 have KS := Lib.hid (sorted_n h h0 hlen)
 clear h
 go_enter Tryz.func132, Tryz.ntmps132
 go_wp2_with fail
 refine KS.out.mono ?_
 rintro e w1 ⟨g, c', hg, rfl, hc, hH, hb1⟩
 have hz : (zl L).length = L.length := zl_len L
 have hms : ((zl L).mergeSort fun x y => decide (x ≤ y)).length = L.length := by simp
 have KC := Lib.hid (compact_int g 0 c' ((zl L).mergeSort fun x y => decide (x ≤ y)) w1 hH (by omega) (by omega))
 rw [hms, compact_sorted_len] at KC
 have HP : Hid (∀ (k : Nat) (d : Array Int), Below w.heap.size w (putRow (Value.int .i64) (Sort.ahead w1 k) g 0 d)) := fun k d => by
  have := below_put hb1 hg d k #[] hb1.size
  rwa [grow_empty] at this
 clear hH hb1 hms hz
 go_wp2_with fail
 refine KC.out.mono ?_
 rintro e w2 ⟨rfl, k, rfl⟩
 go_wp2
 go_ret
 exact ⟨rfl, HP.out k _⟩
end Go.Proofs.YtdpkbfiggbcclaaGreat
