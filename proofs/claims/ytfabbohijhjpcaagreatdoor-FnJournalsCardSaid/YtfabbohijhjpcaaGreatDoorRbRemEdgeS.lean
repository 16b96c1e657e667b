/- Lemmas. -/
import Derived.Test.YtfabbohijhjpcaaGreatDoorRbCluS
import Derived.Test.YtfabbohijhjpcaaGreatDoorRbSidS
/-
-/
namespace Go.Proofs.YtfabbohijhjpcaaGreatDoor
open Go.RowKit
set_option maxHeartbeats 6400000
section
variable (sz:Int) (A:Option Addr) (m c:Nat) (x:Nat->Int) (str:ByteArray) (w:World)
theorem IsChordal_sg (h:GA w A m c x) (hm:m<=1048576):
 Calls Tryz.prog 48 #[.agg #[.int .i64 sz,.slice A m c]] w fun e w'=>e=.returned (.bool (chB sz m x))/\Below w.heap.size w w':=IsChordal_sx sz A m c x w w.heap.size h.rd nr_ hm
theorem IsStronglyChordal_sg (h:GA w A m c x) (hm:m<=1048576):
 Calls Tryz.prog 55 #[.agg #[.int .i64 sz,.slice A m c]] w fun e w'=>e=.returned (.bool (sgB sz m x))/\Below w.heap.size w w':=IsStronglyChordal_s sz A m c x w w.heap.size h.rd nr_ hm
set_option maxRecDepth 100000 in
theorem IsIn_s (h:GA w A m c x) (hm:m<=1048576):
 Calls Tryz.prog 17 #[.agg #[.int .i64 sz,.slice A m c],.string str] w fun e w'=>e=.returned (.bool (isB sz m x str.toList))/\Below w.heap.size w w':=by
 obtain⟨W,hW,HB,HK,HC⟩:=gaW sz h;have HW:=hh_ hW;have HR:Hid (isB sz m x str.toList=isB sz m x str.toList):=rfl;clear hW h;by_cases e0:str.toList= [99,104,111,114,100,97,108]
 ·have r:Hid (isB sz m x str.toList=chB sz m x):=by show _=_;unfold isB;rw[if_pos e0]
  have f0:(str.toList== [99,104,111,114,100,97,108])=true:=by simpa using e0
  clear HR e0;go_enter Tryz.func17,Tryz.ntmps17;obtain⟨e0,e1⟩:=gc_ HC;go_wp2_with fail
  rw[<-HW.out];refine(IsChordal_sg sz A m c x W HK hm).mono ?_;rintro e w1 ⟨rfl,hb1⟩;clear HW;clear e0 e1;obtain⟨HB,HK,HC,e0,e1⟩:=kC_ HB HK HC hb1;clear hb1;go_wp2;go_ret;exact⟨ret_bool r.symm,HB.below⟩
 by_cases e1:str.toList= [105,110,116,101,114,118,97,108]
 ·have r:Hid (isB sz m x str.toList=ivG sz m x):=by show _=_;unfold isB;rw[if_neg e0,if_pos e1]
  have f0:(str.toList== [99,104,111,114,100,97,108])=false:=by simpa using e0
  have f1:(str.toList== [105,110,116,101,114,118,97,108])=true:=by simpa using e1
  clear HR e0 e1;go_enter Tryz.func17,Tryz.ntmps17;obtain⟨e0,e1⟩:=gc_ HC;go_wp2_with fail
  rw[<-HW.out];refine(IsInterval_s sz A m c x W HK hm).mono ?_;rintro e w2 ⟨rfl,hb2⟩;clear HW;clear e0 e1;obtain⟨HB,HK,HC,e0,e1⟩:=kC_ HB HK HC hb2;clear hb2;go_wp2;go_ret;exact⟨ret_bool r.symm,HB.below⟩
 by_cases e2:str.toList= [112,114,111,112,101,114]
 ·have r:Hid (isB sz m x str.toList=ppB sz m x):=by show _=_;unfold isB;rw[if_neg e0,if_neg e1,if_pos e2]
  have f0:(str.toList== [99,104,111,114,100,97,108])=false:=by simpa using e0
  have f1:(str.toList== [105,110,116,101,114,118,97,108])=false:=by simpa using e1
  have f2:(str.toList== [112,114,111,112,101,114])=true:=by simpa using e2
  clear HR e0 e1 e2;go_enter Tryz.func17,Tryz.ntmps17;obtain⟨e0,e1⟩:=gc_ HC;go_wp2_with fail
  rw[<-HW.out];refine(IsProper_s sz A m c x W HK hm).mono ?_;rintro e w3 ⟨rfl,hb3⟩;clear HW;clear e0 e1;obtain⟨HB,HK,HC,e0,e1⟩:=kC_ HB HK HC hb3;clear hb3;go_wp2;go_ret;exact⟨ret_bool r.symm,HB.below⟩
 by_cases e3:str.toList= [99,111,103,114,97,112,104]
 ·have r:Hid (isB sz m x str.toList=cgB sz m x):=by show _=_;unfold isB;rw[if_neg e0,if_neg e1,if_neg e2,if_pos e3]
  have f0:(str.toList== [99,104,111,114,100,97,108])=false:=by simpa using e0
  have f1:(str.toList== [105,110,116,101,114,118,97,108])=false:=by simpa using e1
  have f2:(str.toList== [112,114,111,112,101,114])=false:=by simpa using e2
  have f3:(str.toList== [99,111,103,114,97,112,104])=true:=by simpa using e3
  clear HR e0 e1 e2 e3;go_enter Tryz.func17,Tryz.ntmps17;obtain⟨e0,e1⟩:=gc_ HC;go_wp2_with fail
  rw[<-HW.out];refine(IsCograph_s sz A m c x W HK hm).mono ?_;rintro e w4 ⟨rfl,hb4⟩;clear HW;clear e0 e1;obtain⟨HB,HK,HC,e0,e1⟩:=kC_ HB HK HC hb4;clear hb4;go_wp2;go_ret;exact⟨ret_bool r.symm,HB.below⟩
 by_cases e4:str.toList= [115,112,108,105,116]
 ·have r:Hid (isB sz m x str.toList=slB sz m x):=by show _=_;unfold isB;rw[if_neg e0,if_neg e1,if_neg e2,if_neg e3,if_pos e4]
  have f0:(str.toList== [99,104,111,114,100,97,108])=false:=by simpa using e0
  have f1:(str.toList== [105,110,116,101,114,118,97,108])=false:=by simpa using e1
  have f2:(str.toList== [112,114,111,112,101,114])=false:=by simpa using e2
  have f3:(str.toList== [99,111,103,114,97,112,104])=false:=by simpa using e3
  have f4:(str.toList== [115,112,108,105,116])=true:=by simpa using e4
  clear HR e0 e1 e2 e3 e4;go_enter Tryz.func17,Tryz.ntmps17;obtain⟨e0,e1⟩:=gc_ HC;go_wp2_with fail
  rw[<-HW.out];refine(IsSplit_s sz A m c x W HK hm).mono ?_;rintro e w5 ⟨rfl,hb5⟩;clear HW;clear e0 e1;obtain⟨HB,HK,HC,e0,e1⟩:=kC_ HB HK HC hb5;clear hb5;go_wp2;go_ret;exact⟨ret_bool r.symm,HB.below⟩
 by_cases e5:str.toList= [116,104,114,101,115,104,111,108,100]
 ·have r:Hid (isB sz m x str.toList=toB sz m x):=by show _=_;unfold isB;rw[if_neg e0,if_neg e1,if_neg e2,if_neg e3,if_neg e4,if_pos e5]
  have f0:(str.toList== [99,104,111,114,100,97,108])=false:=by simpa using e0
  have f1:(str.toList== [105,110,116,101,114,118,97,108])=false:=by simpa using e1
  have f2:(str.toList== [112,114,111,112,101,114])=false:=by simpa using e2
  have f3:(str.toList== [99,111,103,114,97,112,104])=false:=by simpa using e3
  have f4:(str.toList== [115,112,108,105,116])=false:=by simpa using e4
  have f5:(str.toList== [116,104,114,101,115,104,111,108,100])=true:=by simpa using e5
  clear HR e0 e1 e2 e3 e4 e5;go_enter Tryz.func17,Tryz.ntmps17;obtain⟨e0,e1⟩:=gc_ HC;go_wp2_with fail
  rw[<-HW.out];refine(IsThreshold_s sz A m c x W HK hm).mono ?_;rintro e w6 ⟨rfl,hb6⟩;clear HW;clear e0 e1;obtain⟨HB,HK,HC,e0,e1⟩:=kC_ HB HK HC hb6;clear hb6;go_wp2;go_ret;exact⟨ret_bool r.symm,HB.below⟩
 by_cases e6:str.toList= [98,105,112,97,114,116,105,116,101]
 ·have r:Hid (isB sz m x str.toList=biB sz m x):=by show _=_;unfold isB;rw[if_neg e0,if_neg e1,if_neg e2,if_neg e3,if_neg e4,if_neg e5,if_pos e6]
  have f0:(str.toList== [99,104,111,114,100,97,108])=false:=by simpa using e0
  have f1:(str.toList== [105,110,116,101,114,118,97,108])=false:=by simpa using e1
  have f2:(str.toList== [112,114,111,112,101,114])=false:=by simpa using e2
  have f3:(str.toList== [99,111,103,114,97,112,104])=false:=by simpa using e3
  have f4:(str.toList== [115,112,108,105,116])=false:=by simpa using e4
  have f5:(str.toList== [116,104,114,101,115,104,111,108,100])=false:=by simpa using e5
  have f6:(str.toList== [98,105,112,97,114,116,105,116,101])=true:=by simpa using e6
  clear HR e0 e1 e2 e3 e4 e5 e6;go_enter Tryz.func17,Tryz.ntmps17;obtain⟨e0,e1⟩:=gc_ HC;go_wp2_with fail
  rw[<-HW.out];refine(IsBipartite_s sz A m c x W HK hm).mono ?_;rintro e w7 ⟨rfl,hb7⟩;clear HW;clear e0 e1;obtain⟨HB,HK,HC,e0,e1⟩:=kC_ HB HK HC hb7;clear hb7;go_wp2;go_ret;exact⟨ret_bool r.symm,HB.below⟩
 by_cases e7:str.toList= [115,116,114,111,110,103]
 ·have r:Hid (isB sz m x str.toList=sgB sz m x):=by show _=_;unfold isB;rw[if_neg e0,if_neg e1,if_neg e2,if_neg e3,if_neg e4,if_neg e5,if_neg e6,if_pos e7]
  have f0:(str.toList== [99,104,111,114,100,97,108])=false:=by simpa using e0
  have f1:(str.toList== [105,110,116,101,114,118,97,108])=false:=by simpa using e1
  have f2:(str.toList== [112,114,111,112,101,114])=false:=by simpa using e2
  have f3:(str.toList== [99,111,103,114,97,112,104])=false:=by simpa using e3
  have f4:(str.toList== [115,112,108,105,116])=false:=by simpa using e4
  have f5:(str.toList== [116,104,114,101,115,104,111,108,100])=false:=by simpa using e5
  have f6:(str.toList== [98,105,112,97,114,116,105,116,101])=false:=by simpa using e6
  have f7:(str.toList== [115,116,114,111,110,103])=true:=by simpa using e7
  clear HR e0 e1 e2 e3 e4 e5 e6 e7;go_enter Tryz.func17,Tryz.ntmps17;obtain⟨e0,e1⟩:=gc_ HC;go_wp2_with fail
  rw[<-HW.out];refine(IsStronglyChordal_sg sz A m c x W HK hm).mono ?_;rintro e w8 ⟨rfl,hb8⟩;clear HW;clear e0 e1;obtain⟨HB,HK,HC,e0,e1⟩:=kC_ HB HK HC hb8;clear hb8;go_wp2;go_ret;exact⟨ret_bool r.symm,HB.below⟩
 by_cases e8:str.toList= [112,101,114,102,101,99,116]
 ·have r:Hid (isB sz m x str.toList=peB sz m x):=by show _=_;unfold isB;rw[if_neg e0,if_neg e1,if_neg e2,if_neg e3,if_neg e4,if_neg e5,if_neg e6,if_neg e7,if_pos e8]
  have f0:(str.toList== [99,104,111,114,100,97,108])=false:=by simpa using e0
  have f1:(str.toList== [105,110,116,101,114,118,97,108])=false:=by simpa using e1
  have f2:(str.toList== [112,114,111,112,101,114])=false:=by simpa using e2
  have f3:(str.toList== [99,111,103,114,97,112,104])=false:=by simpa using e3
  have f4:(str.toList== [115,112,108,105,116])=false:=by simpa using e4
  have f5:(str.toList== [116,104,114,101,115,104,111,108,100])=false:=by simpa using e5
  have f6:(str.toList== [98,105,112,97,114,116,105,116,101])=false:=by simpa using e6
  have f7:(str.toList== [115,116,114,111,110,103])=false:=by simpa using e7
  have f8:(str.toList== [112,101,114,102,101,99,116])=true:=by simpa using e8
  clear HR e0 e1 e2 e3 e4 e5 e6 e7 e8;go_enter Tryz.func17,Tryz.ntmps17;obtain⟨e0,e1⟩:=gc_ HC;go_wp2_with fail
  rw[<-HW.out];refine(IsPerfect_s sz A m c x W HK hm).mono ?_;rintro e w9 ⟨rfl,hb9⟩;clear HW;clear e0 e1;obtain⟨HB,HK,HC,e0,e1⟩:=kC_ HB HK HC hb9;clear hb9;go_wp2;go_ret;exact⟨ret_bool r.symm,HB.below⟩
 have r:Hid (isB sz m x str.toList=false):=by show _=_;unfold isB;rw[if_neg e0,if_neg e1,if_neg e2,if_neg e3,if_neg e4,if_neg e5,if_neg e6,if_neg e7,if_neg e8]
 have f0:(str.toList== [99,104,111,114,100,97,108])=false:=by simpa using e0
 have f1:(str.toList== [105,110,116,101,114,118,97,108])=false:=by simpa using e1
 have f2:(str.toList== [112,114,111,112,101,114])=false:=by simpa using e2
 have f3:(str.toList== [99,111,103,114,97,112,104])=false:=by simpa using e3
 have f4:(str.toList== [115,112,108,105,116])=false:=by simpa using e4
 have f5:(str.toList== [116,104,114,101,115,104,111,108,100])=false:=by simpa using e5
 have f6:(str.toList== [98,105,112,97,114,116,105,116,101])=false:=by simpa using e6
 have f7:(str.toList== [115,116,114,111,110,103])=false:=by simpa using e7
 have f8:(str.toList== [112,101,114,102,101,99,116])=false:=by simpa using e8
 clear e0 e1 e2 e3 e4 e5 e6 e7 e8;go_enter Tryz.func17,Tryz.ntmps17;go_wp2;rw[<-HW.out];go_ret;exact⟨ret_bool r.symm,HB.below⟩
end
set_option maxHeartbeats 1600000
set_option maxRecDepth 100000 in
theorem RemoveEdge_s (sz:Int) (A:Option Addr) (m c:Nat) (x:Nat->Int) (v u:Int) (w:World) (B:Nat) (h:Rd w B A m c x) (hB:B<=w.heap.size) (hm:m<=1048576):
 Calls Tryz.prog 92 #[.agg #[.int .i64 sz,.slice A m c],.int .i64 v,.int .i64 u] w fun e w'=> ∃A' c',e=.returned (.tuple #[.agg #[.int .i64 sz,.slice A' m c'],.bool (reB sz m x v u)])/\Own w' (w.heap.size+2) w'.heap.size 3 1 A' m c' (fun j=> .int .i64 (reX sz m x v u j))/\Below w.heap.size w w':=by
 obtain⟨W,hW⟩: ∃W,W=((w.alloc (Obj.cells #[.int .i64 sz,.slice A m c] 26)).alloc (Obj.cells #[.int .i64 0,.slice none 0 0] 26)):=⟨_,rfl⟩;have HB:Hid (Below w.heap.size w W):=by rw[hW];exact(br_.alloc nr_ _).alloc (by simp) _
 have HZ:Hid (w.heap.size+2=W.heap.size):=by rw[hW];simp[Hid]
 have e0:W.cell? ⟨w.heap.size,0,none⟩=some (.int .i64 sz):=by rw[hW];simp[go_sem]
 have e1:W.cell? ⟨w.heap.size,1,none⟩=some (.slice A m c):=by rw[hW];simp[go_sem]
 have e2:W.cell? ⟨w.heap.size+1,0,none⟩=some (.int .i64 0):=by rw[hW];simp[go_sem]
 have e3:W.cell? ⟨w.heap.size+1,1,none⟩=some (.slice none 0 0):=by rw[hW];simp[go_sem]
 have e4:W.frozen? ⟨w.heap.size+1,0,none⟩=false:=by rw[hW];simp[go_sem]
 have e5:W.frozen? ⟨w.heap.size+1,1,none⟩=false:=by rw[hW];simp[go_sem]
 have HK:=hh_ (h.keep (HB.mono hB) nr_);have HW:=hh_ hW;clear hW h;go_enter Tryz.func92,Tryz.ntmps92;go_wp2_with fail
 rw[<-HW.out];refine(l2Copy_any sz A m c x W B HK (by have:=HZ.out;omega) hm).mono ?_;rintro e w1 ⟨A',c',rfl,hO,hb1⟩;have f0:=up hb1 e0 (by have:=HZ.out;omega);have f1:=up hb1 e1 (by have:=HZ.out;omega);have f2:=up hb1 e2 (by have:=HZ.out;omega);have f3:=up hb1 e3 (by have:=HZ.out;omega);have f4:=upf hb1 e4 (by have:=HZ.out;omega);have f5:=upf hb1 e5 (by have:=HZ.out;omega);have z1:=hb1.size;have zz0:w.heap.size<w1.heap.size:=by have:=HZ.out;omega
 have zz1:w.heap.size+1<w1.heap.size:=by have:=HZ.out;omega
 have HO1:=hh_ hO;have HB1:=hh_ hb1;obtain⟨W2,hW2⟩: ∃W2,W2=(w1.alloc (Obj.cells #[.int .i64 sz,.slice A' m c'] 26)):=⟨_,rfl⟩;have hb2:Below w1.heap.size w1 W2:=by rw[hW2];exact(br_.alloc nr_ _)
 have z2:w1.heap.size<W2.heap.size:=by rw[hW2];simp
 have g0:=up hb2 f0 zz0;have g1:=up hb2 f1 zz0;have g2:=up hb2 f2 zz1;have g3:=up hb2 f3 zz1;have g4:=upf hb2 f4 zz1;have g5:=upf hb2 f5 zz1;have g6:W2.cell? ⟨w1.heap.size,0,none⟩=some (.int .i64 sz):=by rw[hW2];simp[go_sem]
 have g7:W2.cell? ⟨w1.heap.size,1,none⟩=some (.slice A' m c'):=by rw[hW2];simp[go_sem]
 have HB2:=hh_ hb2;have HW2:=hh_ hW2;have HK2:Hid (Rd W2 W2.heap.size A m c x):=HK.keep ((HB1.trans (HB2.mono z1)).mono (by have:=HZ.out;omega)) (by have:=HZ.out;omega);have HO2:Hid (Own W2 (W.heap.size+2) w1.heap.size 3 1 A' m c' (fun j=> .int .i64 (x j))):=HO1.keepB HB2 nr_;clear hO hb1 HW e0 e1 e2 e3 e4 e5 hb2 hW2;go_wp2_with fail
 rw[<-HW2.out];clear HW2 f0 f1 f2 f3 f4 f5;refine(l2Pair_any sz A m c x v u W2 W2.heap.size HK2 nr_ hm).mono ?_;rintro e w3 ⟨rfl,hb3⟩;have z3:=hb3.size;have yy0:w.heap.size<W2.heap.size:=by omega
 have yy1:w.heap.size+1<W2.heap.size:=by omega
 have i0:=up hb3 g0 yy0;have i1:=up hb3 g1 yy0;have i2:=up hb3 g2 yy1;have i3:=up hb3 g3 yy1;have i4:=upf hb3 g4 yy1;have i5:=upf hb3 g5 yy1;have i6:=up hb3 g6 z2;have i7:=up hb3 g7 z2;have HO3:Hid (Own w3 (W.heap.size+2) w1.heap.size 3 1 A' m c' (fun j=> .int .i64 (x j))):=HO2.keepB hb3 (by omega);have HK3:Hid (Rd w3 w3.heap.size A m c x):=HK2.keep hb3 z3;have HB3:Hid (Below w.heap.size w w3):=HB.trans ((HB1.trans ((HB2.trans (hb3.mono (by omega))).mono z1)).mono (by have:=HZ.out;omega));have xx0:w.heap.size<w3.heap.size:=by omega
 have xx1:w.heap.size+1<w3.heap.size:=by omega
 have xx2:w1.heap.size<w3.heap.size:=by omega
 clear g0 g1 g2 g3 g4 g5 g6 g7 hb3 HO1 HO2 HK HK2 HB1 HB2 HB yy0 yy1;obtain⟨t,ht⟩: ∃t,t=prB sz m x v u:=⟨_,rfl⟩;rw[<-ht];have Ht:=hh_ ht;clear ht;cases t
 ·have hno:Hid (reB sz m x v u=false):=by
   show _=_;cases hb:reB sz m x v u
   ·rfl
   ·obtain⟨ho,⟨h1,h2,h3,h4,h5⟩,h6⟩:=reB_parts hb;have:=Ht.out;unfold prB at this;rw[ho,decide_eq_true (⟨h1,h3,h2,h4,h5⟩:0<=v/\0<=u/\v<sz/\u<sz/\v≠u)] at this;cases this
  clear Ht;go_wp2;have F:Fr (w.heap.size+1) (w.heap.size+2) w3 _:=((Fr.refl _ _ w3).setCell (p:=⟨w.heap.size+1,0,none⟩) nr_ (Nat.lt_succ_self _) (Value.int IntKind.i64 sz)).setCell (p:=⟨w.heap.size+1,1,none⟩) nr_ (Nat.lt_succ_self _) (Value.slice A' m c');have O1:=((HO3.keep F (.inr (by have:=HZ.out;omega))).mono (lo':=w.heap.size+2) (by have:=HZ.out;omega) (Nat.le_trans (by omega) F.size));exact bodyPost_ret (v:=.tuple #[.agg #[.int .i64 sz,.slice A' m c'],.bool false]) (by simp[results,Tryz.results92,go_sem, *]) rfl ⟨A',c',by rw[hno.out],O1.congr (fun j hj=>by rw[reX_no hno.out]),HB3.trans (F.below (by omega) (by omega))⟩
 ·have Hok:Hid (okB sz m x=true):=by
   show _=_;have:=Ht.out;unfold prB at this;cases ho:okB sz m x
   ·rw[ho] at this;cases this
   ·rfl
  obtain⟨h1,h3,h2,h4,h5⟩:0<=v/\0<=u/\v<sz/\u<sz/\v≠u:=by
   have:=Ht.out;unfold prB at this;rw[Hok.out] at this;simpa using this
  obtain⟨n,rfl⟩:=Int.eq_ofNat_of_zero_le h1;obtain⟨k,rfl⟩:=Int.eq_ofNat_of_zero_le h3;obtain⟨r,es,vg,hx⟩:=okB_ok' Hok.out;subst es;have hn1:=vg.n1;have hn7:=vg.n7;have HX:=hh_ hx;have HV:=hh_ vg;have Hne:Hid (n≠k):=by show n≠k;omega
  obtain⟨b,o,rfl,hb,hc⟩:=HK3.pos (by omega);have q0:=hc n (by omega);have q1:0<=x n:=by have:=HX.out n (by omega);omega
  have q2:x n<16777216:=by have:=HX.out n (by omega);have:=HV.lt128 (v:=n) (by omega);omega
  clear hx vg hc Ht h5;go_wp2_with fail
  refine(l2Edge_any (m:Int) b o m c w3 n k (x n) q0 hb (by omega) q1 q2 (by omega)).mono ?_;rintro e w4 ⟨rfl,hb4⟩;have z4:=hb4.size;have j2:=up hb4 i2 xx1;have j3:=up hb4 i3 xx1;have j4:=upf hb4 i4 xx1;have j5:=upf hb4 i5 xx1;have j6:=up hb4 i6 xx2;have j7:=up hb4 i7 xx2;have HO4:Hid (Own w4 (W.heap.size+2) w1.heap.size 3 1 A' m c' (fun j=> .int .i64 (x j))):=HO3.keepB hb4 (by omega);have HB4:Hid (Below w.heap.size w w4):=HB3.trans (hb4.mono (by omega));have ww1:w.heap.size+1<w4.heap.size:=by omega
  have ww2:w1.heap.size<w4.heap.size:=by omega
  clear i0 i1 i2 i3 i4 i5 i6 i7 HO3 HB3 HK3 hb4 q0 hb;by_cases ht:(x n).toNat.testBit k=true
  ·rw[ht];have hyes:Hid (reB (m:Int) m x n k=true):=by
    show _=_;unfold reB;rw[Hok.out,decide_eq_true (⟨by omega,by omega,by omega,by omega,by have:=Hne.out;omega⟩:0<=(n:Int)/\(n:Int)<m/\0<=(k:Int)/\(k:Int)<m/\(n:Int)≠k)];simp[ht]
   have ht1:(r n).testBit k=true:=by rw[HX.out n (by omega),Int.toNat_natCast] at ht;exact ht
   have ht2:(r k).testBit n=true:=by rw[<-HV.sym n k (by omega) (by omega)];exact ht1
   have hx128: ∀j,j<m->r j<128:=fun j hj=>HV.lt128 hj
   obtain⟨g,rfl,hg1,hg2,hOc⟩:=HO4.only (by omega);have HO5:Hid (Own w4 g (g+1) 3 1 (some ⟨g,0,none⟩) m c' (fun j=> .int .i64 (r j:Int))):=hOc.congr (fun j hj=>by rw[HX.out j (by omega)]);obtain⟨g',e1,_,_,hg3,hcg,hfg⟩:=HO5.at_ (by omega);simp only[Option.some.injEq,Addr.mk.injEq,and_true] at e1;subst e1;have c1:=hcg n (by omega);have c2:=hcg k (by omega);have s1:wrap64 ((r n:Int)-2^k)=((r n^^^2^k:Nat):Int):=by
    obtain⟨e,e0⟩:=sub_pow_bit ht1;have h2:=two_pow_int k (by omega);have h3:=hx128 n (by omega);rw[<-e];have e2:((r n-2^k:Nat):Int)=(r n:Int)-2^k:=by rw[Int.ofNat_sub e0];simp
    rw[e2];have e4:((2^k:Nat):Int)<=(r n:Int):=Int.ofNat_le.2 e0;have e3:((2^k:Nat):Int)=2^k:=by simp
    exact Go.IntWalk.wrap64_in ((r n:Int)-2^k) (by omega)
   have s2:wrap64 ((r k:Int)-2^n)=((r k^^^2^n:Nat):Int):=by
    obtain⟨e,e0⟩:=sub_pow_bit ht2;have h2:=two_pow_int n (by omega);have h3:=hx128 k (by omega);rw[<-e];have e2:((r k-2^n:Nat):Int)=(r k:Int)-2^n:=by rw[Int.ofNat_sub e0];simp
    rw[e2];have e4:((2^n:Nat):Int)<=(r k:Int):=Int.ofNat_le.2 e0;have e3:((2^n:Nat):Int)=2^n:=by simp
    exact Go.IntWalk.wrap64_in ((r k:Int)-2^n) (by omega)
   have f1:=hfg n;have f2:=hfg k;have p1:=pow_shl n (by omega);have p2:=pow_shl k (by omega);have i1:(n:Int)<m:=by omega
   have i2:(k:Int)<m:=by omega
   have HX128:=hh_ hx128;have HXK:Hid (∀j,j<m->x j=(r j:Int)):=HX.out;clear HO4 hOc hcg hfg HX HV hx128 ht ht1 ht2 q1 q2;go_wp2;go_region
   have hgn:g≠w1.heap.size:=by omega
   have hgm:g≠w.heap.size+1:=by have:=HZ.out;omega
   have hne2:(k=n)=False:=by have:=Hne.out;simp;omega
   have hne3:(n=k)=False:=by have:=Hne.out;simp;omega
   go_wp2;go_region
   obtain⟨W5,hW5⟩: ∃W5,W5=((w4.setCell ⟨g,n,none⟩ (.int .i64 ((r n^^^2^k:Nat):Int))).setCell ⟨g,k,none⟩ (.int .i64 ((r k^^^2^n:Nat):Int))).drew.drew:=⟨_,rfl⟩;have O5:Hid (Own W5 g (g+1) 3 1 (some ⟨g,0,none⟩) m c' (fun j=> .int .i64 (addN r n k j))):=by
    rw[hW5];refine((((HO5.set_ n _).set_ k _).drew).drew).congr (fun j hj=> ?_);have hne:=Hne.out;unfold addN;by_cases h1:j=k
    ·subst h1;rw[if_pos rfl,if_neg (fun e=>hne e.symm),if_pos rfl]
    ·rw[if_neg h1];by_cases h2:j=n
     ·subst h2;rw[if_pos rfl,if_pos rfl]
     ·rw[if_neg h2,if_neg h2,if_neg h1]
   have F5:Fr g (g+1) w4 W5:=by rw[hW5];exact(((Fr.refl _ _ w4).setCell (p:=⟨g,n,none⟩) nr_ (Nat.lt_succ_self _) _).setCell (p:=⟨g,k,none⟩) nr_ (Nat.lt_succ_self _) _).drew.drew
   have hgl:g<w1.heap.size:=hg2;have hgh:w.heap.size+2<=g:=by have:=HZ.out;omega
   have l2:=frC F5 j2 ww1 (by omega);have l3:=frC F5 j3 ww1 (by omega);have l4:=frZ F5 j4 ww1 (by omega);have l5:=frZ F5 j5 ww1 (by omega);have l6:=frC F5 j6 ww2 (by omega);have l7:=frC F5 j7 ww2 (by omega);have z5:=F5.size;have HB5:Hid (Below w.heap.size w W5):=HB4.trans (F5.below (by omega) (by omega));rw[<-hW5];have HXr:Hid (∀j,j<m->reX (m:Int) m x n k j=(addN r n k j:Int)):=by
    intro j hj;unfold reX;rw[hyes.out];simp only[if_true];unfold addN;simp only[Int.toNat_natCast,HXK.out j hj]
   clear hW5 F5 j2 j3 j4 j5 j6 j7 c1 c2 s1 s2 f1 f2 p1 p2 HB4 HO5 hne2 hne3 hgn hgm;go_wp2;have F:Fr (w.heap.size+1) (w.heap.size+2) W5 _:=((Fr.refl _ _ W5).setCell (p:=⟨w.heap.size+1,0,none⟩) nr_ (Nat.lt_succ_self _) (Value.int IntKind.i64 m)).setCell (p:=⟨w.heap.size+1,1,none⟩) nr_ (Nat.lt_succ_self _) (Value.slice (some ⟨g,0,none⟩) m c');have O1:=((O5.keep F (.inr hgh)).mono (lo':=w.heap.size+2) hgh (Nat.le_trans (by omega) F.size));exact bodyPost_ret (v:=.tuple #[.agg #[.int .i64 m,.slice (some ⟨g,0,none⟩) m c'],.bool true]) (by simp[results,Tryz.results92,go_sem, *]) rfl ⟨some ⟨g,0,none⟩,c',by rw[hyes.out],O1.congr (fun j hj=>by rw[HXr.out j (by omega)]),HB5.trans (F.below (by omega) (by omega))⟩
  ·rw[Bool.not_eq_true] at ht;rw[ht];have hno:Hid (reB (m:Int) m x n k=false):=by
    show _=_;cases hb:reB (m:Int) m x n k
    ·rfl
    ·have:=(reB_parts hb).2.2;simp[ht] at this
   clear ht;go_wp2;have F:Fr (w.heap.size+1) (w.heap.size+2) w4 _:=((Fr.refl _ _ w4).setCell (p:=⟨w.heap.size+1,0,none⟩) nr_ (Nat.lt_succ_self _) (Value.int IntKind.i64 m)).setCell (p:=⟨w.heap.size+1,1,none⟩) nr_ (Nat.lt_succ_self _) (Value.slice A' m c');have O1:=((HO4.keep F (.inr (by have:=HZ.out;omega))).mono (lo':=w.heap.size+2) (by have:=HZ.out;omega) (Nat.le_trans (by omega) F.size));exact bodyPost_ret (v:=.tuple #[.agg #[.int .i64 m,.slice A' m c'],.bool false]) (by simp[results,Tryz.results92,go_sem, *]) rfl ⟨A',c',by rw[hno.out],O1.congr (fun j hj=>by rw[reX_no hno.out]),HB4.trans (F.below (by omega) (by omega))⟩
end Go.Proofs.YtfabbohijhjpcaaGreatDoor
