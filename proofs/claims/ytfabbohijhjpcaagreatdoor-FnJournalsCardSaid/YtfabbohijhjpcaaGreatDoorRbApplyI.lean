/- Lemmas. -/
import Derived.Test.YtfabbohijhjpcaaGreatDoorRbFmS
import Derived.Test.YtfabbohijhjpcaaGreatDoorRbV
/-
-/
namespace Go.Proofs.YtfabbohijhjpcaaGreatDoor
open Go.RowKit
set_option maxHeartbeats 1600000
theorem HasEdge_i (A:Option Addr) (m c:Nat) (x:Nat->Int) (v u:Int) (w:World) (B:Nat) (h:Rd w B A m c x) (hB:B<=w.heap.size) (hok:okB m m x=true):
 Calls Tryz.prog 152 #[.agg #[.int .i64 m,.slice A m c],.int .i64 v,.int .i64 u] w fun e w'=>e=.returned (.bool (reB m m x v u))/\Below w.heap.size w w':=by
 obtain⟨r,_,vg,hx⟩:=okB_ok' hok;have hn1:=vg.n1;have hn7:=vg.n7;obtain⟨W,hW⟩: ∃W,W=((w.alloc (Obj.cells #[.int .i64 m,.slice A m c] 26)).alloc (Obj.cells #[.int .i64 v,Value.int IntKind.i64 u] 3)):=⟨_,rfl⟩;have HB:Hid (Below w.heap.size w W):=by rw[hW];exact(br_.alloc nr_ _).alloc (by simp) _
 have a0:w.heap.size<W.heap.size:=by rw[hW];simp;omega
 have e0:W.cell? ⟨w.heap.size,0,none⟩=some (.int .i64 m):=by rw[hW];simp[go_sem]
 have e1:W.cell? ⟨w.heap.size,1,none⟩=some (.slice A m c):=by rw[hW];simp[go_sem]
 have HY:Hid (Rd W W.heap.size (some ⟨w.heap.size+1,0,none⟩) 2 2 (fun j=>if j=0 then v else u)):=by
  refine⟨nr_,fun _=>⟨w.heap.size+1,0,rfl,by rw[hW];simp,fun k hk=> ?_⟩⟩;rw[hW];have:k=0\/k=1:=by omega
  rcases this with rfl|rfl<;>simp[go_sem]
 have HK:=hh_ (h.keep (HB.mono hB) (Nat.le_trans hB HB.size));have HW:=hh_ hW;have HX:=hh_ hx;have HV:=hh_ vg;have Hok:=hh_ hok;clear hW h hx vg hok;go_enter Tryz.func152,Tryz.ntmps152;go_wp2_with fail
 rw[<-HW.out];clear HW;refine(isVertex_ok A (some ⟨w.heap.size+1,0,none⟩) m c 2 x (fun j=>if j=0 then v else u) W W.heap.size HK HY.out nr_ (by omega) Hok.out v u rfl rfl).mono ?_;rintro e w1 ⟨rfl,hb1⟩;have z1:=hb1.size;have f0:=up hb1 e0 a0;have f1:=up hb1 e1 a0;have HB1:Hid (Below w.heap.size w w1):=HB.trans (hb1.mono (by omega));have HK1:Hid (Rd w1 w1.heap.size A m c x):=HK.keep hb1 z1;clear hb1 e0 e1 HY HK HB;by_cases hin:0<=v/\v<m/\0<=u/\u<m
 ·rw[decide_eq_true hin];obtain⟨h1,h2,h3,h4⟩:=hin;obtain⟨n,rfl⟩:=Int.eq_ofNat_of_zero_le h1;obtain⟨k,rfl⟩:=Int.eq_ofNat_of_zero_le h3;obtain⟨b,o,rfl,hb,hc⟩:=HK1.pos (by omega);have q0:=hc n (by omega);have q1:0<=x n:=by have:=HX.out n (by omega);omega
  have q2:x n<16777216:=by have:=HX.out n (by omega);have:=HV.lt128 (v:=n) (by omega);omega
  have hv:Hid (reB (m:Int) m x n k=(x n).toNat.testBit k):=reB_val Hok.out (by omega) (by omega);clear hc;go_wp2_with fail
  refine(has_any (x n) k w1 q1 q2 (by omega) (by omega)).mono ?_;rintro e w2 ⟨rfl,rfl⟩;rw[Int.toNat_natCast,<-hv.out];go_wp2;go_ret;exact⟨rfl,HB1⟩
 ·have hno:Hid (reB (m:Int) m x v u=false):=reB_out hin;rw[decide_eq_false hin];clear hin;go_wp2;go_ret;exact⟨ret_bool hno.symm,HB1⟩
theorem RemoveEdge_i (sz:Int) (A:Option Addr) (m c:Nat) (x:Nat->Int) (v u:Int) (w:World) (B:Nat) (h:Rd w B A m c x) (hB:B<=w.heap.size) (hm:m<=1048576) (hok:okB sz m x=true):
 Calls Tryz.prog 90 #[.agg #[.int .i64 sz,.slice A m c],.int .i64 v,.int .i64 u] w fun e w'=> ∃A' c',e=.returned (.tuple #[.agg #[.int .i64 sz,.slice A' m c'],.bool (reB sz m x v u)])/\Own w' (w.heap.size+2) w'.heap.size 3 1 A' m c' (fun j=> .int .i64 (reX sz m x v u j))/\Below w.heap.size w w':=by
 obtain⟨r,es,vg,hx⟩:=okB_ok' hok;subst es;have hn1:=vg.n1;have hn7:=vg.n7;obtain⟨W,hW⟩: ∃W,W=((w.alloc (Obj.cells #[.int .i64 m,.slice A m c] 26)).alloc (Obj.cells #[.int .i64 0,.slice none 0 0] 26)):=⟨_,rfl⟩;have HB:Hid (Below w.heap.size w W):=by rw[hW];exact(br_.alloc nr_ _).alloc (by simp) _
 have HZ:Hid (w.heap.size+2=W.heap.size):=by rw[hW];simp[Hid]
 have e0:W.cell? ⟨w.heap.size,0,none⟩=some (.int .i64 m):=by rw[hW];simp[go_sem]
 have e1:W.cell? ⟨w.heap.size,1,none⟩=some (.slice A m c):=by rw[hW];simp[go_sem]
 have e2:W.cell? ⟨w.heap.size+1,0,none⟩=some (.int .i64 0):=by rw[hW];simp[go_sem]
 have e3:W.cell? ⟨w.heap.size+1,1,none⟩=some (.slice none 0 0):=by rw[hW];simp[go_sem]
 have e4:W.frozen? ⟨w.heap.size+1,0,none⟩=false:=by rw[hW];simp[go_sem]
 have e5:W.frozen? ⟨w.heap.size+1,1,none⟩=false:=by rw[hW];simp[go_sem]
 have HK:=hh_ (h.keep (HB.mono hB) nr_);have HW:=hh_ hW;have HX:=hh_ hx;have HV:=hh_ vg;have Hok:=hh_ hok;clear hW h hx vg hok;go_enter Tryz.func90,Tryz.ntmps90;go_wp2_with fail
 rw[<-HW.out];refine(copyGraph_any m A m c x W B HK (by have:=HZ.out;omega) hm).mono ?_;rintro e w1 ⟨A',c',rfl,hO,hb1⟩;have f0:=up hb1 e0 (by have:=HZ.out;omega);have f1:=up hb1 e1 (by have:=HZ.out;omega);have f2:=up hb1 e2 (by have:=HZ.out;omega);have f3:=up hb1 e3 (by have:=HZ.out;omega);have f4:=upf hb1 e4 (by have:=HZ.out;omega);have f5:=upf hb1 e5 (by have:=HZ.out;omega);have z1:=hb1.size;have zz0:w.heap.size<w1.heap.size:=by have:=HZ.out;omega
 have zz1:w.heap.size+1<w1.heap.size:=by have:=HZ.out;omega
 obtain⟨g,rfl,hg1,hg2,hOc⟩:=hO.only (by omega);have HO1:=hh_ hOc;have HB1:=hh_ hb1;obtain⟨W2,hW2⟩: ∃W2,W2=(w1.alloc (Obj.cells #[.int .i64 m,.slice (some ⟨g,0,none⟩) m c'] 26)):=⟨_,rfl⟩;have hb2:Below w1.heap.size w1 W2:=by rw[hW2];exact br_.alloc nr_ _
 have z2:w1.heap.size<W2.heap.size:=by rw[hW2];simp
 have g0:=up hb2 f0 zz0;have g1:=up hb2 f1 zz0;have g2:=up hb2 f2 zz1;have g3:=up hb2 f3 zz1;have g4:=upf hb2 f4 zz1;have g5:=upf hb2 f5 zz1;have g6:W2.cell? ⟨w1.heap.size,0,none⟩=some (.int .i64 m):=by rw[hW2];simp[go_sem]
 have g7:W2.cell? ⟨w1.heap.size,1,none⟩=some (.slice (some ⟨g,0,none⟩) m c'):=by rw[hW2];simp[go_sem]
 have HB2:=hh_ hb2;have HW2:=hh_ hW2;have HK2:Hid (Rd W2 W2.heap.size A m c x):=HK.keep ((HB1.trans (HB2.mono z1)).mono (by have:=HZ.out;omega)) (by have:=HZ.out;omega);have HO2:Hid (Own W2 g (g+1) 3 1 (some ⟨g,0,none⟩) m c' (fun j=> .int .i64 (x j))):=HO1.keepB HB2 (by omega);clear hO hOc hb1 HW e0 e1 e2 e3 e4 e5 hb2 hW2;go_wp2_with fail
 rw[<-HW2.out];clear HW2 f0 f1 f2 f3 f4 f5;refine(HasEdge_i A m c x v u W2 W2.heap.size HK2 nr_ Hok.out).mono ?_;rintro e w3 ⟨rfl,hb3⟩;have z3:=hb3.size;have yy0:w.heap.size<W2.heap.size:=by omega
 have yy1:w.heap.size+1<W2.heap.size:=by omega
 have i2:=up hb3 g2 yy1;have i3:=up hb3 g3 yy1;have i4:=upf hb3 g4 yy1;have i5:=upf hb3 g5 yy1;have i6:=up hb3 g6 z2;have i7:=up hb3 g7 z2;have HO3:Hid (Own w3 g (g+1) 3 1 (some ⟨g,0,none⟩) m c' (fun j=> .int .i64 (x j))):=HO2.keepB hb3 (by omega);have HB3:Hid (Below w.heap.size w w3):=HB.trans ((HB1.trans ((HB2.trans (hb3.mono (by omega))).mono z1)).mono (by have:=HZ.out;omega));have xx1:w.heap.size+1<w3.heap.size:=by omega
 have xx2:w1.heap.size<w3.heap.size:=by omega
 have HG:Hid (w.heap.size+2<=g/\g<w1.heap.size):=⟨by have:=HZ.out;omega,hg2⟩;clear g0 g1 g2 g3 g4 g5 g6 g7 hb3 HO1 HO2 HK HK2 HB1 HB2 HB yy0 yy1 hg1 hg2 zz0 zz1;obtain⟨t,ht⟩: ∃t,t=reB (m:Int) m x v u:=⟨_,rfl⟩;rw[<-ht];have Ht:=hh_ ht;clear ht;cases t
 ·go_wp2;have F:Fr (w.heap.size+1) (w.heap.size+2) w3 _:=((Fr.refl _ _ w3).setCell (p:=⟨w.heap.size+1,0,none⟩) nr_ (Nat.lt_succ_self _) (Value.int IntKind.i64 m)).setCell (p:=⟨w.heap.size+1,1,none⟩) nr_ (Nat.lt_succ_self _) (Value.slice (some ⟨g,0,none⟩) m c');have O1:=((HO3.keep F (.inr HG.out.1)).mono HG.out.1 (by have:=HG.out.2;simp;omega:g+1<=((w3.setCell ⟨w.heap.size+1,0,none⟩ (Value.int IntKind.i64 m)).setCell ⟨w.heap.size+1,1,none⟩ (Value.slice (some ⟨g,0,none⟩) m c')).heap.size));exact bodyPost_ret (v:=.tuple #[.agg #[.int .i64 m,.slice (some ⟨g,0,none⟩) m c'],.bool false]) (by simp[results,Tryz.results90,go_sem, *]) rfl ⟨some ⟨g,0,none⟩,c',by rw[<-Ht.out],O1.congr (fun j hj=>by rw[reX_no Ht.symm]),HB3.trans (F.below (by omega) (by omega))⟩
 ·obtain⟨_,⟨h1,h2,h3,h4,h5⟩,_⟩:=reB_parts Ht.symm;obtain⟨n,rfl⟩:=Int.eq_ofNat_of_zero_le h1;obtain⟨k,rfl⟩:=Int.eq_ofNat_of_zero_le h3;have Hne:Hid (n≠k):=by show n≠k;omega
  have hx128: ∀j,j<m->(x j).toNat<128:=fun j hj=>by have:=HX.out j hj;have:=HV.lt128 hj;omega
  have KF:=hh_ (flip_any m g m c' (fun i=>(x i).toNat) n k w3 g (g+1) (HO3.congr (fun j hj=>by have:=HX.out j (by omega);show Value.int .i64 (x j)=.int .i64 (((x j).toNat:Nat):Int);congr 1;omega)) (by have:=HG.out.2;omega) hn7 (by omega) (by omega) Hne.out hx128);clear hx128 h5;go_wp2_with fail
  refine KF.mono ?_;rintro e w4 ⟨rfl,hO4,hf4⟩;have z4:=hf4.size;have j2:=frC hf4 i2 xx1 (by have:=HG.out.1;omega);have j3:=frC hf4 i3 xx1 (by have:=HG.out.1;omega);have j4:=frZ hf4 i4 xx1 (by have:=HG.out.1;omega);have j5:=frZ hf4 i5 xx1 (by have:=HG.out.1;omega);have j6:=frC hf4 i6 xx2 (by have:=HG.out.2;omega);have j7:=frC hf4 i7 xx2 (by have:=HG.out.2;omega);have HO4:=hh_ hO4;have HB4:Hid (Below w.heap.size w w4):=HB3.trans (hf4.below (by have:=HG.out.1;omega) (by omega));clear hO4 hf4 i2 i3 i4 i5 i6 i7 HO3 HB3 HX HV KF;go_wp2;have F:Fr (w.heap.size+1) (w.heap.size+2) w4 _:=((Fr.refl _ _ w4).setCell (p:=⟨w.heap.size+1,0,none⟩) nr_ (Nat.lt_succ_self _) (Value.int IntKind.i64 m)).setCell (p:=⟨w.heap.size+1,1,none⟩) nr_ (Nat.lt_succ_self _) (Value.slice (some ⟨g,0,none⟩) m c');have O1:=((HO4.keep F (.inr HG.out.1)).mono HG.out.1 (by have:=HG.out.2;simp;omega:g+1<=((w4.setCell ⟨w.heap.size+1,0,none⟩ (Value.int IntKind.i64 m)).setCell ⟨w.heap.size+1,1,none⟩ (Value.slice (some ⟨g,0,none⟩) m c')).heap.size))
  exact bodyPost_ret (v:=.tuple #[.agg #[.int .i64 m,.slice (some ⟨g,0,none⟩) m c'],.bool true]) (by simp[results,Tryz.results90,go_sem, *]) rfl ⟨some ⟨g,0,none⟩,c',by rw[<-Ht.out],O1.congr (fun j hj=>by unfold reX;rw[<-Ht.out];simp),HB4.trans (F.below (by omega) (by omega))⟩
set_option maxHeartbeats 1600000
structure ED (w:World) (A:Option Addr) (n c:Nat) (a:Nat->Bool) (v u:Nat->Int):Prop where
 rd:RdE w w.heap.size A n c a v u
theorem ED.keep {w w':World} {A:Option Addr} {n c:Nat} {a:Nat->Bool} {v u:Nat->Int} (h:ED w A n c a v u) (hb:Below w.heap.size w w'):ED w' A n c a v u:=⟨h.rd.keep hb hb.size⟩
theorem ED.addr {w:World} {A:Option Addr} {n c:Nat} {a:Nat->Bool} {v u:Nat->Int} (h:ED w A n c a v u) (hn:0<n): ∃b o,A=some ⟨b,o,none⟩:=by
 obtain⟨b,o,e,_⟩:=h.rd.2 hn;exact⟨b,o,e⟩
theorem ED.at {w:World} {b o n c k:Nat} {a:Nat->Bool} {v u:Nat->Int} (h:ED w (some ⟨b,o,none⟩) n c a v u) (hk:k<n):w.cell? ⟨b,o+k*3,none⟩=some (.bool (a k))/\w.cell? ⟨b,o+k*3+1,none⟩=some (.int .i64 (v k))/\w.cell? ⟨b,o+k*3+2,none⟩=some (.int .i64 (u k)):=by
 obtain⟨b',o',e,_,hc⟩:=h.rd.2 (by omega);simp only[Option.some.injEq,Addr.mk.injEq,and_true] at e;obtain⟨rfl,rfl⟩:=e;exact hc k hk
theorem applied_i (sz:Int) (A:Option Addr) (m c:Nat) (x:Nat->Int) (a:Bool) (v u:Int) (w:World) (B:Nat) (h:Rd w B A m c x) (hB:B<=w.heap.size) (hm:m<=1048576) (hok:okB sz m x=true):
 Calls Tryz.prog 38 #[.agg #[.int .i64 sz,.slice A m c],.agg #[.bool a,.int .i64 v,.int .i64 u]] w fun e w'=> ∃A' c',e=.returned (.tuple #[.agg #[.int .i64 sz,.slice A' m c'],.bool (apB a sz m x v u)])/\Own w' (w.heap.size+3) w'.heap.size 3 1 A' m c' (fun j=> .int .i64 (apX a sz m x v u j))/\Below w.heap.size w w':=by
 obtain⟨W,hW⟩: ∃W,W=(((w.alloc (Obj.cells #[.int .i64 sz,.slice A m c] 26)).alloc (Obj.cells #[.bool a,.int .i64 v,.int .i64 u] 48)).alloc (Obj.cells #[.int .i64 0,.slice none 0 0] 26)):=⟨_,rfl⟩;have HB:Hid (From w W):=by rw[hW];exact(((From.alloc _ _).alloc_ _).alloc_ _)
 have HZ:Hid (w.heap.size+3=W.heap.size):=by rw[hW];simp[Hid]
 have HC:Hid (GC W (w.heap.size+2) 0 none 0 0):=by rw[hW];constructor<;>simp[go_sem]
 have HK:=hh_ (h.keep (HB.below.mono hB) nr_);have HW:=hh_ hW;have Hok:=hh_ hok;clear hW h hok;cases a
 all_goals
  go_enter Tryz.func38,Tryz.ntmps38;go_wp2_with fail
  rw[<-HW.out];clear HW;first
   |(refine(RemoveEdge_i sz A m c x v u W B HK (by have:=HZ.out;omega) hm Hok.out).mono ?_
     rintro e w1 ⟨A',c',rfl,hO,hb1⟩;have e1:apB false sz m x v u=reB sz m x v u:=rfl;have e2:apX false sz m x v u=reX sz m x v u:=rfl;rw[<-e1];rw[<-e2] at hO;clear e1 e2)
   |(refine(AddEdge_i sz A m c x v u W B HK (by have:=HZ.out;omega) hm Hok.out).mono ?_
     rintro e w1 ⟨A',c',rfl,hO,hb1⟩;have e1:apB true sz m x v u=aeB sz m x v u:=rfl;have e2:apX true sz m x v u=aeX sz m x v u:=rfl;rw[<-e1];rw[<-e2] at hO;clear e1 e2)
  have HC1:=hh_ (HC.keep hb1);have HB1:=hh_ (HB.keep hb1);have HO:=hh_ hO;have zs:=hb1.size;have k0:=HC1.c0;have k1:=HC1.c1;have k2:=HC1.f0;have k3:=HC1.f1;clear hO hb1 HC HB HK;go_wp2;have F:=fr2 w1 (w.heap.size+2) (Value.int .i64 sz) (Value.slice A' m c');have O1:=(HO.keep F (.inr (by have:=HZ.out;omega))).mono (lo':=w.heap.size+3) (by have:=HZ.out;omega) F.size;have B1:=(HB1.set (q:=w.heap.size+2) (by omega) (Value.int .i64 sz) (Value.slice A' m c')).below;refine bodyPost_ret (v:=.tuple #[.agg #[.int .i64 sz,.slice A' m c'],_]) (by simp[results,Tryz.results38,go_sem, *]<;>rfl) rfl ⟨A',c',rfl,O1,B1⟩
set_option maxRecDepth 100000 in
theorem ApplyEdits_i (sz:Int) (A:Option Addr) (m c:Nat) (x:Nat->Int) (Al:Option Addr) (n cl:Nat) (a:Nat->Bool) (v u:Nat->Int) (w:World) (B:Nat) (h:Rd w B A m c x) (hl:RdE w B Al n cl a v u) (hB:B<=w.heap.size) (hm:m<=1048576) (hn:n<=1048576):
 Calls Tryz.prog 7 #[.agg #[.int .i64 sz,.slice A m c],.slice Al n cl] w fun e w'=> ∃A' c',e=.returned (.tuple #[.agg #[.int .i64 (apZ sz m x n a v u),.slice A' (apN sz m x n a v u) c'],.bool (apD sz m x n a v u)])/\Own w' w.heap.size w'.heap.size 3 1 A' (apN sz m x n a v u) c' (fun j=> .int .i64 (apY sz m x n a v u j))/\Below w.heap.size w w':=by
 obtain⟨W,hW⟩: ∃W,W=((w.alloc (Obj.cells #[.int .i64 sz,.slice A m c] 26)).alloc (Obj.cells #[.int .i64 0,.slice none 0 0] 26)):=⟨_,rfl⟩;have HB:Hid (From w W):=by rw[hW];exact((From.alloc _ _).alloc_ _)
 have HZ:Hid (w.heap.size+2=W.heap.size):=by rw[hW];simp[Hid]
 have HC:Hid (GC W (w.heap.size+1) 0 none 0 0):=by rw[hW];constructor<;>simp[go_sem]
 have HG:Hid (GC W w.heap.size sz A m c):=by rw[hW];constructor<;>simp[go_sem]
 have HK:Hid (Rd W W.heap.size A m c x):=h.keep (HB.below.mono hB) (by have:=HB.below.size;omega);have HD:Hid (ED W Al n cl a v u):=⟨hl.keep (HB.below.mono hB) (by have:=HB.below.size;omega)⟩;have HW:=hh_ hW;have hfin: ∀(z:World),apR sz m x n a v u=none->From w z-> ∃A' c',Ending.returned (.tuple #[.agg #[.int .i64 0,.slice none 0 0],.bool false])=.returned (.tuple #[.agg #[.int .i64 (apZ sz m x n a v u),.slice A' (apN sz m x n a v u) c'],.bool (apD sz m x n a v u)])/\Own z w.heap.size z.heap.size 3 1 A' (apN sz m x n a v u) c' (fun j=> .int .i64 (apY sz m x n a v u j))/\Below w.heap.size w z:=by
  intro z hr hf;obtain⟨h1,h2,h3⟩:=ap_none hr;exact⟨none,0,by rw[h1,h2,h3],by rw[h2];exact Own.nil _ _ _ _ _ _,hf.below⟩
 have HFIN:=hh_ hfin;obtain⟨e0,e1⟩:=gc_ HG;clear hW h hl hfin;go_enter Tryz.func7,Tryz.ntmps7;go_wp2_with fail
 rw[<-HW.out];clear HW;refine(IsGraph_any sz A m c x W W.heap.size HK nr_ hm).mono ?_;rintro e w1 ⟨rfl,hb1⟩;clear e0 e1;have z1:=hb1.size;replace HB:=hh_ (HB.keep hb1);replace HC:=hh_ (HC.keep hb1);replace HG:=hh_ (HG.keep hb1);replace HD:=hh_ (HD.keep hb1);have HK1:Hid (Rd w1 w1.heap.size A m c x):=HK.keep hb1 z1;obtain⟨e0,e1⟩:=gc_ HG;clear hb1 HK;cases ho:okB sz m x
 ·have hr:Hid (apR sz m x n a v u=none):=apR_no ho;have k0:=HC.c0;have k1:=HC.c1;have k2:=HC.f0;have k3:=HC.f1;clear ho;go_wp2;exact bodyPost_ret (v:=.tuple #[.agg #[.int .i64 0,.slice none 0 0],.bool false]) (by simp[results,Tryz.results7,go_sem, *]) rfl (HFIN.out _ hr.out (HB.set (q:=w.heap.size+1) (by omega) _ _))
 by_cases h12:12<n
 ·have hr:Hid (apR sz m x n a v u=none):=apR_long h12;have i1:(12:Int)<n:=by omega
  have k0:=HC.c0;have k1:=HC.c1;have k2:=HC.f0;have k3:=HC.f1;clear ho;go_wp2;exact bodyPost_ret (v:=.tuple #[.agg #[.int .i64 0,.slice none 0 0],.bool false]) (by simp[results,Tryz.results7,go_sem, *]) rfl (HFIN.out _ hr.out (HB.set (q:=w.heap.size+1) (by omega) _ _))
 have hr:Hid (apR sz m x n a v u=apF sz m a v u 0 n x):=apR_yes ho (by omega);have Ho:=hh_ ho;have i1:(n:Int)<=12:=by omega
 clear ho;go_wp2_with fail
 refine(copyGraph_any sz A m c x w1 w1.heap.size HK1 nr_ hm).mono ?_;rintro e w2 ⟨A',c',rfl,hO,hb2⟩;clear e0 e1;have z2:=hb2.size;replace HB:=hh_ (HB.keep hb2);replace HC:=hh_ (HC.keep hb2);replace HD:=hh_ (HD.keep hb2);have HO:Hid (Own w2 (w.heap.size+2) w2.heap.size 3 1 A' m c' (fun j=> .int .i64 (x j))):=hO.mono (by have:=HZ.out;omega) nr_;have zw:w.heap.size+2<=w2.heap.size:=by have:=HZ.out;omega
 clear hO hb2 HK1 HG;go_wp2;go_loopw [24] (fun i wr=> ∃(k:Nat) (A4:Option Addr) (c4:Nat) (y:Nat->Int),k<=n/\i=.int .i64 k/\Hid (GC wr w2.heap.size sz A4 m c4)/\Hid (Own wr (w.heap.size+2) wr.heap.size 3 1 A4 m c4 (fun j=> .int .i64 (y j)))/\Hid (okB sz m y=true)/\Hid (apR sz m x n a v u=apF sz m a v u k (n-k) y)/\Hid (From w2 wr)) (fun i _=>n-(intOf i).toNat);case atStart=>exact⟨0,A',c',x,Nat.zero_le _,rfl,GC.new _ _ _ _ _,(HO.alloc _).mono nr_ (by simp),Ho,hr,From.alloc _ _⟩
 case round=>
  obtain⟨k,A4,c4,y,hk,rfl,HQ,HY,Hy,HR,HF⟩:=hrel;have zr:=HF.below.size;have HBr:=hh_ (HB.keep HF.below);have HCr:=hh_ (HC.keep HF.below);have q0:=HQ.c0;have q1:=HQ.c1;have zq:=HQ.lt;by_cases hlt:k<n
  ·have HDr:=hh_ (HD.keep HF.below);obtain⟨b,o,rfl⟩:=HDr.addr (by omega);obtain⟨p0,p1,p2⟩:=HDr.at hlt;have hap:apF sz m a v u k (n-k) y=if apB (a k) sz m y (v k) (u k)=true then apF sz m a v u (k+1) (n-(k+1)) (apX (a k) sz m y (v k) (u k)) else none:=by
    obtain⟨r,hr⟩: ∃r,n-k=r+1:=⟨n-k-1,by omega⟩;have:n-(k+1)=r:=by omega
    rw[hr,this,apF]
   have Hap:=hh_ hap;obtain⟨t,ht⟩: ∃t,t=apB (a k) sz m y (v k) (u k):=⟨_,rfl⟩;have Ht:=hh_ ht;obtain⟨W5,hW5⟩: ∃W5,W5=(wr.alloc (Obj.cells #[.bool (a k),.int .i64 (v k),.int .i64 (u k)] 48)):=⟨_,rfl⟩;have hb5:Below wr.heap.size wr W5:=by rw[hW5];exact br_.alloc nr_ _
   have z5:=hb5.size;have HQ5:=hh_ (HQ.keep hb5);have HY5:Hid (Rd W5 W5.heap.size A4 m c4 y):=HY.rd.keep hb5 z5;have HB5:=hh_ (HBr.keep hb5);have HC5:=hh_ (HCr.keep hb5);have HF5:=hh_ (HF.keep hb5);have i2:(k:Int)<n:=by omega
   have HW5:=hh_ hW5;clear hap ht hW5 hb5 HBr HCr HDr;go_wp2_with fail
   rw[<-HW5.out];clear HW5 q0 q1 p0 p1 p2;refine(applied_i sz A4 m c4 y (a k) (v k) (u k) W5 W5.heap.size HY5.out nr_ hm Hy.out).mono ?_;rintro e w6 ⟨A6,c6,rfl,hO6,hb6⟩;have z6:=hb6.size;have HQ6:=hh_ (HQ5.keep hb6);have HB6:=hh_ (HB5.keep hb6);have HC6:=hh_ (HC5.keep hb6);have HF6:=hh_ (HF5.keep hb6);have HO6:=hh_ hO6;rw[<-Ht.out];clear hO6 hb6 HQ5 HB5 HC5 HF5 HY5;cases t
   ·have hn:Hid (apR sz m x n a v u=none):=by show _=_;rw[HR.out,Hap.out,<-Ht.out];rfl
    have k0:=HC6.c0;have k1:=HC6.c1;have k2:=HC6.f0;have k3:=HC6.f1;have k4:=HC6.lt;go_wp2;exact bodyPost_ret (v:=.tuple #[.agg #[.int .i64 0,.slice none 0 0],.bool false]) (by simp[results,Tryz.results7,go_sem,k0,k1,k4]) rfl (HFIN.out _ hn.out ((HB6.set (q:=w.heap.size+1) (by omega) _ _).alloc_ _))
   ·have hn:Hid (apR sz m x n a v u=apF sz m a v u (k+1) (n-(k+1)) (apX (a k) sz m y (v k) (u k))):=by show _=_;rw[HR.out,Hap.out,<-Ht.out];rfl
    have Hy2:Hid (okB sz m (apX (a k) sz m y (v k) (u k))=true):=apX_ok Hy.out;have k0:=HQ6.c0;have k1:=HQ6.c1;have k2:=HQ6.f0;have k3:=HQ6.f1;have k4:=HQ6.lt;clear HC6 HB6;go_wp2;go_roundw;case rel=>exact⟨k+1,A6,c6,_,by omega,by go_num,HQ6.set.keep (br_.alloc nr_ _),((HO6.keep (fr2 _ w2.heap.size _ _) (.inr (by omega))).alloc _).mono (by omega) (by simp[World.setCell]),Hy2,hn,(HF6.set nr_ _ _).alloc_ _⟩
    case measure=>simp[intOf];omega
  ·have hke:n-k=0:=by omega
   have hs:Hid (apR sz m x n a v u=some y):=by show _=_;rw[HR.out,hke];rfl
   have i2:(n:Int)<=k:=by omega
   have k0:=HCr.c0;have k1:=HCr.c1;have k2:=HCr.f0;have k3:=HCr.f1;clear hke;go_wp2;have F:=fr2 wr (w.heap.size+1) (Value.int .i64 sz) (Value.slice A4 m c4);have O1:=(HY.keep F (.inr nr_)).mono (lo':=w.heap.size) (by omega) F.size;obtain⟨h1,h2,h3,h4⟩:=ap_some hs.out;exact bodyPost_ret (v:=.tuple #[.agg #[.int .i64 sz,.slice A4 m c4],.bool true]) (by simp[results,Tryz.results7,go_sem,k0,k1]) rfl ⟨A4,c4,by rw[h1,h2,h3],by rw[h2,h4];exact O1,(HBr.set (q:=w.heap.size+1) (by omega) _ _).below⟩
end Go.Proofs.YtfabbohijhjpcaaGreatDoor
