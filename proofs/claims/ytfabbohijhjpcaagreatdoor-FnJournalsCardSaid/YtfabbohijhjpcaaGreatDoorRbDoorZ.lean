/- Lemmas. -/
import Derived.Test.YtfabbohijhjpcaaGreatDoorRbDrxW
import Derived.Test.YtfabbohijhjpcaaGreatDoorRbBoxG
import Derived.JoinedOf
/-
-/
namespace Go.Proofs.YtfabbohijhjpcaaGreatDoor
open Go.RowKit
set_option maxHeartbeats 25600000
set_option maxRecDepth 100000 in
theorem fnJournals_walk (A:Option Addr) (n c:Nat) (w:World) (h:BX w A n c) (hn:n<=maxLen) (hMx:Mx w):
 Calls Tryz.prog 3 #[.slice A n c] w fun e w'=>e=.returned (.bool true)/\Below w.heap.size w w':=by
 have HB:Hid (From w w):=From.refl w;have HY:=hh_ h;have HM:=hh_ hMx;clear h hMx;by_cases hbig:1048576<n
 ·have eb:=hh_ (decide_eq_true hbig);clear hbig;go_enter Tryz.func3,Tryz.ntmps3;go_wp2_with fail
  refine(big_s A n c w hn).mono ?_;rintro e w0 ⟨rfl,rfl⟩;rw[eb.out];go_wp2;go_ret;exact⟨rfl,HB.below⟩
 have hn2:n<=1048576:=by omega
 have eb:=hh_ (decide_eq_false hbig);clear hbig;go_enter Tryz.func3,Tryz.ntmps3;go_wp2_with fail
 refine(big_s A n c w hn).mono ?_;rintro e w0 ⟨rfl,rfl⟩;rw[eb.out];clear eb hn;go_wp2_with fail
 refine(DrawApplyEdits_s HY.b hn2).mono ?_;rintro e v1 ⟨s1,B1,m1,d1,x1,A3,c3,T,rfl,hS,hT6,hoT⟩;have hm1:=hS.h7;have hga:GA v1 B1 m1 d1 x1:=⟨hS.o1.rd⟩;have hbv:=hS.b;obtain⟨n3,a3,v3,u3,hn3,hED⟩: ∃(n3:Nat) (a3:Nat->Bool) (v3 u3:Nat->Int),T.length=n3/\ED v1 A3 n3 c3 a3 v3 u3:=⟨_,_,_,_,rfl,⟨Own.rdE hoT⟩⟩;rw[hn3] at hT6 ⊢;have HED:=hh_ hED;clear hn3 hoT hED;replace HB:=hh_ (HB.keep hbv);replace HY:=hh_ (HY.keep hbv);replace HM:=hh_ (HM.keep hbv);clear hbv hS;obtain⟨U1,hW⟩: ∃U,U=v1.alloc (Obj.cells #[.int .i64 s1,.slice B1 m1 d1] 26):=⟨_,rfl⟩;have hbU:Below v1.heap.size v1 U1:=by rw[hW];exact br_.alloc nr_ _
 have HG1:Hid (GX U1 v1.heap.size s1 B1 m1 d1 x1):=by rw[hW];exact GX.new hga
 have HW:=hh_ hW;replace HB:=hh_ (HB.keep hbU);replace HY:=hh_ (HY.keep hbU);replace HM:=hh_ (HM.keep hbU);replace HED:=hh_ (HED.keep hbU);clear hbU hW hga;have hT6A:=hT6;obtain⟨is,s2,m2,X2,a2,v2,u2,hm2,K1,K2,K3,K4⟩:=jou_pack s1 m1 x1 n3 a3 v3 u3 hm1 hT6;replace K1:=hh_ K1;replace K2:=hh_ K2;replace K3:=hh_ K3;replace K4:=hh_ K4;have f0:=HG1.c0;have f1:=HG1.c1;go_wp2_with fail
 rw[<-HW.out];refine(K1.out _ _ _ _ _ HG1.a HED.out).mono ?_;rintro e w1 ⟨A5,c5,rfl,ha5,hb1⟩;clear HW;clear f0 f1;replace HB:=hh_ (HB.keep hb1);replace HY:=hh_ (HY.keep hb1);replace HM:=hh_ (HM.keep hb1);replace HED:=hh_ (HED.keep hb1);replace HG1:=hh_ (HG1.keep hb1);clear hb1;have f0:=HG1.c0;have f1:=HG1.c1;obtain⟨U2,hW⟩: ∃U,U=w1.alloc (Obj.cells #[.int .i64 s2,.slice A5 m2 c5] 26):=⟨_,rfl⟩;have hbU:Below w1.heap.size w1 U2:=by rw[hW];exact br_.alloc nr_ _
 have HH:Hid (GX U2 w1.heap.size s2 A5 m2 c5 X2):=by rw[hW];exact GX.new ha5
 have HW:=hh_ hW;have hl1:=World.block_lt_of_cell? _ _ f0;clear hW;go_wp2_with fail
 rw[<-HW.out];clear HW;clear f0 f1;replace HB:=hh_ (HB.keep hbU);replace HY:=hh_ (HY.keep hbU);replace HM:=hh_ (HM.keep hbU);replace HED:=hh_ (HED.keep hbU);replace HG1:=hh_ (HG1.keep hbU);clear hbU ha5 hl1;have f0:=HG1.c0;have f1:=HG1.c1;refine(K2.out _ _ _ _ _ HG1.a HED.out).mono ?_;rintro e v5 ⟨A6,c6,rfl,ha6,hb6⟩;clear f0 f1;replace HB:=hh_ (HB.keep hb6);replace HY:=hh_ (HY.keep hb6);replace HM:=hh_ (HM.keep hb6);replace HED:=hh_ (HED.keep hb6);replace HG1:=hh_ (HG1.keep hb6);replace HH:=hh_ (HH.keep hb6);clear hb6;have f0:=HG1.c0;have f1:=HG1.c1;obtain⟨U3,hW⟩: ∃U,U=v5.alloc (Obj.cells #[.int .i64 s2,.slice A6 m2 c6] 26):=⟨_,rfl⟩;have hbU:Below v5.heap.size v5 U3:=by rw[hW];exact br_.alloc nr_ _
 have HX:Hid (GX U3 v5.heap.size s2 A6 m2 c6 X2):=by rw[hW];exact GX.new ha6
 have HW:=hh_ hW;clear hW f0 f1;go_wp2_with fail
 rw[<-HW.out];clear HW;replace HB:=hh_ (HB.keep hbU);replace HY:=hh_ (HY.keep hbU);replace HM:=hh_ (HM.keep hbU);replace HED:=hh_ (HED.keep hbU);replace HG1:=hh_ (HG1.keep hbU);replace HH:=hh_ (HH.keep hbU);clear hbU ha6;refine(K3.out _ _ _ HED.out).mono ?_;rintro e v6 ⟨A7,c7,rfl,hu7,hb7⟩;have HU:=hh_ hu7;replace HB:=hh_ (HB.keep hb7);replace HY:=hh_ (HY.keep hb7);replace HM:=hh_ (HM.keep hb7);replace HED:=hh_ (HED.keep hb7);replace HG1:=hh_ (HG1.keep hb7);replace HH:=hh_ (HH.keep hb7);replace HX:=hh_ (HX.keep hb7);clear hb7 hu7;have e0:=HH.c0;have e1:=HH.c1;have e2:=HX.c0;have e3:=HX.c1;go_wp2_with fail
 refine(near_graphs HH.a HX.a (EqR.refl _) hm2).mono ?_;rintro e v7 ⟨rfl,hb8⟩;clear e0 e1 e2 e3 HH;have f0:=HG1.c0;have f1:=HG1.c1;have h0:=HX.c0;have h1:=HX.c1;clear f0 f1 h0 h1;replace HB:=hh_ (HB.keep hb8);replace HY:=hh_ (HY.keep hb8);replace HM:=hh_ (HM.keep hb8);replace HED:=hh_ (HED.keep hb8);replace HG1:=hh_ (HG1.keep hb8);replace HX:=hh_ (HX.keep hb8);replace HU:=hh_ (HU.keep hb8);clear hb8;have f0:=HG1.c0;have f1:=HG1.c1;have h0:=HX.c0;have h1:=HX.c1;go_upto_if 79 with fail
 go_cut [] from 79 to 93 (fun wx=>Hid (From w0 wx)/\Hid (BX wx A n c)/\Hid (Mx wx)/\Hid (ED wx A3 n3 c3 a3 v3 u3))
 case first=>
  cases is
  ·go_wp2_with fail
   go_meet;exact⟨HB,HY,HM,HED⟩
  ·obtain⟨X3,hX3,K5⟩:=K4.out rfl;have HX3:=hh_ hX3;replace K5:=hh_ K5;clear hX3 K4;go_wp2_with fail
   refine(K5.out _ _ _ _ _ HX.a HU.out).mono ?_;rintro e v8 ⟨A8,c8,rfl,ha8,hb9⟩;clear f0 f1 h0 h1;replace HB:=hh_ (HB.keep hb9);replace HY:=hh_ (HY.keep hb9);replace HM:=hh_ (HM.keep hb9);replace HED:=hh_ (HED.keep hb9);replace HG1:=hh_ (HG1.keep hb9);replace HX:=hh_ (HX.keep hb9);replace HU:=hh_ (HU.keep hb9);clear hb9;have f0:=HG1.c0;have f1:=HG1.c1;have h0:=HX.c0;have h1:=HX.c1;obtain⟨U4,hW⟩: ∃U,U=v8.alloc (Obj.cells #[.int .i64 s1,.slice A8 m1 c8] 26):=⟨_,rfl⟩;have hbU:Below v8.heap.size v8 U4:=by rw[hW];exact br_.alloc nr_ _
   have HK8:Hid (GX U4 v8.heap.size s1 A8 m1 c8 X3):=by rw[hW];exact GX.new ha8
   have HW:=hh_ hW;clear hW h0 h1;have hl1:=World.block_lt_of_cell? _ _ f0;go_wp2_with fail
   rw[<-HW.out];clear HW;clear f0 f1;replace HB:=hh_ (HB.keep hbU);replace HY:=hh_ (HY.keep hbU);replace HM:=hh_ (HM.keep hbU);replace HED:=hh_ (HED.keep hbU);replace HG1:=hh_ (HG1.keep hbU);clear hbU ha8 hl1;have f0:=HG1.c0;have f1:=HG1.c1;refine(near_graphs HK8.a HG1.a HX3.out hm1).mono ?_;rintro e v9 ⟨rfl,hb9⟩;clear f0 f1;replace HB:=hh_ (HB.keep hb9);replace HY:=hh_ (HY.keep hb9);replace HM:=hh_ (HM.keep hb9);replace HED:=hh_ (HED.keep hb9);replace HG1:=hh_ (HG1.keep hb9);clear hb9;have f0:=HG1.c0;have f1:=HG1.c1;go_wp2_with fail
   go_meet;exact⟨HB,HY,HM,HED⟩
 case rest=>
 clear HB HY HM HED HG1 HX HU K1 K2 K3 K4 f0 f1 h0 h1;obtain⟨HB,HY,HM,HED⟩:=hcut;obtain⟨z0,hz0⟩: ∃z,z=wc:=⟨_,rfl⟩;rw[<-hz0] at HB HY HM HED ⊢;clear hz0;go_wp2_with fail
 refine(DrawEditsBetween_s HY.b hn2).mono ?_;rintro e va ⟨s4,B4,m4,d4,x4,s5,B5,m5,d5,x5,rfl,hT⟩;have hm4:=hT.h1;have hm5:=hT.h2;have hga4:GA va B4 m4 d4 x4:=⟨hT.o1.rd⟩;have hga5:GA va B5 m5 d5 x5:=⟨hT.o2.rd⟩;have hbv:=hT.b;replace HB:=hh_ (HB.keep hbv);replace HY:=hh_ (HY.keep hbv);replace HM:=hh_ (HM.keep hbv);replace HED:=hh_ (HED.keep hbv);clear hbv hT;obtain⟨Ua,hW⟩: ∃U,U=((va.alloc (Obj.cells #[.int .i64 s4,.slice B4 m4 d4] 26)).alloc (Obj.cells #[.int .i64 s5,.slice B5 m5 d5] 26)):=⟨_,rfl⟩;obtain⟨hg4,hg5,hbU⟩:=GX.two (s1:=s4) (s2:=s5) hga4 hga5;rw[<-hW] at hg4 hg5 hbU;have HG4:=hh_ hg4;have HG5:=hh_ hg5;have HW:=hh_ hW;replace HB:=hh_ (HB.keep hbU);replace HY:=hh_ (HY.keep hbU);replace HM:=hh_ (HM.keep hbU);replace HED:=hh_ (HED.keep hbU);clear hbU hW hg4 hg5 hga4 hga5;obtain⟨one,N4,a4,v4,u4,hN4,K1,K2,K3⟩:=btw_pack s4 m4 x4 s5 m5 x5 hm4.2 hm5.2
 replace K1:=hh_ K1;replace K2:=hh_ K2;replace K3:=hh_ K3;have e0:=HG4.c0;have e1:=HG4.c1;have e2:=HG5.c0;have e3:=HG5.c1;go_wp2_with fail
 rw[<-HW.out];refine(K1.out _ _ _ _ _ HG4.a HG5.a).mono ?_;rintro e w2 ⟨A9,c9,rfl,hed9,hb2⟩;clear HW;clear e0 e1 e2 e3;replace HB:=hh_ (HB.keep hb2);replace HY:=hh_ (HY.keep hb2);replace HM:=hh_ (HM.keep hb2);replace HED:=hh_ (HED.keep hb2);replace HG4:=hh_ (HG4.keep hb2);replace HG5:=hh_ (HG5.keep hb2);clear hb2;have e0:=HG4.c0;have e1:=HG4.c1;have e2:=HG5.c0;have e3:=HG5.c1;clear hed9;go_wp2_with fail
 refine(K2.out _ _ _ _ _ HG4.a HG5.a).mono ?_;rintro e w3 ⟨A9s,c9s,rfl,hed9,hb3⟩;clear e0 e1 e2 e3;replace HB:=hh_ (HB.keep hb3);replace HY:=hh_ (HY.keep hb3);replace HM:=hh_ (HM.keep hb3);replace HED:=hh_ (HED.keep hb3);replace HG4:=hh_ (HG4.keep hb3);replace HG5:=hh_ (HG5.keep hb3);clear hb3;have e0:=HG4.c0;have e1:=HG4.c1;have e2:=HG5.c0;have e3:=HG5.c1;have HE9:=hh_ hed9;clear hed9 K1 K2;go_upto_region 18 with fail
 go_cut [126] from 121 to 126 (fun t wx=> ∃bt:Bool,t=.bool bt/\Hid (bt=true->one=true/\N4<=12)/\wx=w3)
 case first=>
  cases one
  ·go_wp2_with fail
   go_meet;exact⟨false,rfl,(fun h=>by cases h),by first|rfl|trivial⟩
  ·by_cases h12:N4<=12
   rotate_left
   ·have i12:(12:Int)<N4:=by omega
    go_wp2_with fail
    go_meet;exact⟨false,by rw[decide_eq_false (by omega)],(fun h=>by cases h),by first|rfl|trivial⟩
   ·have i12:(N4:Int)<=12:=by omega
    go_wp2_with fail
    go_meet;exact⟨true,by first|rfl|trivial,(fun _=>⟨by first|rfl|trivial,h12⟩),by first|rfl|trivial⟩
 case rest=>
 obtain⟨bt,rfl,hbt,hwc⟩:=hcut;rw[hwc];clear hwc;go_upto_if 126 with fail
 go_cut [] from 126 to 140 (fun wx=>Hid (From w0 wx)/\Hid (BX wx A n c)/\Hid (Mx wx)/\Hid (ED wx A3 n3 c3 a3 v3 u3))
 case first=>
  cases bt
  ·go_wp2_with fail
   go_meet;exact⟨HB,HY,HM,HED⟩
  ·skip
   ·obtain⟨hone,h12⟩:=hbt.out rfl;subst hone;obtain⟨X4,hX4,K5⟩:=K3.out rfl h12;have HX4:=hh_ hX4;replace K5:=hh_ K5;clear hX4 K3;go_wp2_with fail
    refine(K5.out _ _ _ _ _ HG4.a HE9.out).mono ?_;rintro e v8 ⟨A8,c8,rfl,ha8,hb9⟩;clear e0 e1 e2 e3;replace HB:=hh_ (HB.keep hb9);replace HY:=hh_ (HY.keep hb9);replace HM:=hh_ (HM.keep hb9);replace HED:=hh_ (HED.keep hb9);replace HG4:=hh_ (HG4.keep hb9);replace HG5:=hh_ (HG5.keep hb9);replace HE9:=hh_ (HE9.keep hb9);clear hb9;have e0:=HG4.c0;have e1:=HG4.c1;have e2:=HG5.c0;have e3:=HG5.c1;obtain⟨U4,hW⟩: ∃U,U=v8.alloc (Obj.cells #[.int .i64 s5,.slice A8 m5 c8] 26):=⟨_,rfl⟩;have hbU:Below v8.heap.size v8 U4:=by rw[hW];exact br_.alloc nr_ _
    have HK8:Hid (GX U4 v8.heap.size s5 A8 m5 c8 X4):=by rw[hW];exact GX.new ha8
    have HW:=hh_ hW;have hl1:=World.block_lt_of_cell? _ _ e2;clear hW e0 e1;go_wp2_with fail
    rw[<-HW.out];clear HW;clear e2 e3;replace HB:=hh_ (HB.keep hbU);replace HY:=hh_ (HY.keep hbU);replace HM:=hh_ (HM.keep hbU);replace HED:=hh_ (HED.keep hbU);replace HG5:=hh_ (HG5.keep hbU);clear hbU ha8 hl1;have e2:=HG5.c0;have e3:=HG5.c1;refine(near_graphs HK8.a HG5.a HX4.out hm5.2).mono ?_;rintro e v9 ⟨rfl,hb9⟩;clear e2 e3;replace HB:=hh_ (HB.keep hb9);replace HY:=hh_ (HY.keep hb9);replace HM:=hh_ (HM.keep hb9);replace HED:=hh_ (HED.keep hb9);replace HG5:=hh_ (HG5.keep hb9);clear hb9;have e2:=HG5.c0;have e3:=HG5.c1;go_wp2_with fail
    go_meet;exact⟨HB,HY,HM,HED⟩
 case rest=>
 clear HB HY HM HED HG4 HG5 HE9 K3 e0 e1 e2 e3 hbt;obtain⟨HB,HY,HM,HED⟩:=hcut;obtain⟨z0,hz0⟩: ∃z,z=wc:=⟨_,rfl⟩;rw[<-hz0] at HB HY HM HED ⊢;clear hz0;go_wp2_with fail
 refine(DrawMembershipOf_s HY.b hn2).mono ?_;rintro e vb ⟨s6,B6,m6,d6,x6,A6,c6,T,t6,rfl,hS,hT6,hoT⟩;have hm6:=hS.h7;have hga:GA vb B6 m6 d6 x6:=⟨hS.o1.rd⟩;have hbv:=hS.b;obtain⟨n6,a6,v6,u6,hn6,hED⟩: ∃(n6:Nat) (a6:Nat->Bool) (v6 u6:Nat->Int),T.length=n6/\ED vb A6 n6 c6 a6 v6 u6:=⟨_,_,_,_,rfl,⟨Own.rdE hoT⟩⟩;rw[hn6] at hT6 ⊢;have HE6:=hh_ hED;clear hn6 hoT hED;replace HB:=hh_ (HB.keep hbv);replace HY:=hh_ (HY.keep hbv);replace HM:=hh_ (HM.keep hbv);replace HED:=hh_ (HED.keep hbv);clear hbv hS;obtain⟨Ub,hW⟩: ∃U,U=vb.alloc (Obj.cells #[.int .i64 s6,.slice B6 m6 d6] 26):=⟨_,rfl⟩;have hbU:Below vb.heap.size vb Ub:=by rw[hW];exact br_.alloc nr_ _
 have HG6:Hid (GX Ub vb.heap.size s6 B6 m6 d6 x6):=by rw[hW];exact GX.new hga
 have HW:=hh_ hW;replace HB:=hh_ (HB.keep hbU);replace HY:=hh_ (HY.keep hbU);replace HM:=hh_ (HM.keep hbU);replace HED:=hh_ (HED.keep hbU);replace HE6:=hh_ (HE6.keep hbU);clear hbU hW hga;obtain⟨N,f,k,hN,K1,K2,K3,K4,K5,K6⟩:=mem_pack s6 m6 x6 n6 a6 v6 u6 t6 hm6 hT6;replace K1:=hh_ K1;replace K2:=hh_ K2;replace K3:=hh_ K3;replace K4:=hh_ K4;replace K5:=hh_ K5;replace K6:=hh_ K6;have e0:=HG6.c0;have e1:=HG6.c1;go_wp2_with fail
 rw[<-HW.out];refine(K1.out _ _ _ _ _ HG6.a HE6.out).mono ?_;rintro e w4 ⟨Ap,cp,rfl,hp,hb4⟩;clear HW;clear e0 e1;replace HB:=hh_ (HB.keep hb4);replace HY:=hh_ (HY.keep hb4);replace HM:=hh_ (HM.keep hb4);replace HED:=hh_ (HED.keep hb4);replace HE6:=hh_ (HE6.keep hb4);replace HG6:=hh_ (HG6.keep hb4);clear hb4;have e0:=HG6.c0;have e1:=HG6.c1;have HP:=hh_ hp;clear hp;go_wp2_with fail
 refine(K2.out _ _ _ _ _ HG6.a HE6.out).mono ?_;rintro e w5 ⟨Aq,cq,rfl,hq,hb5⟩;clear e0 e1;replace HB:=hh_ (HB.keep hb5);replace HY:=hh_ (HY.keep hb5);replace HM:=hh_ (HM.keep hb5);replace HED:=hh_ (HED.keep hb5);replace HE6:=hh_ (HE6.keep hb5);replace HG6:=hh_ (HG6.keep hb5);replace HP:=hh_ (HP.keep hb5);clear hb5;have e0:=HG6.c0;have e1:=HG6.c1;have HQ:=hh_ hq;clear hq K1 K2 e0 e1;go_wp2;obtain⟨wo,rfl⟩: ∃z,z=w5:=⟨_,rfl⟩;go_loopw [25] (fun iv wr=> ∃i:Nat,i<=N/\iv=.int .i64 i/\Hid (From w0 wr)/\Hid (BX wr A n c)/\Hid (Mx wr)/\Hid (ED wr A3 n3 c3 a3 v3 u3)/\Hid (ED wr A6 n6 c6 a6 v6 u6)/\Hid (GX wr vb.heap.size s6 B6 m6 d6 x6)/\Hid (BQ wr Ap N cp f)/\Hid (BQ wr Aq N cq f)) (fun iv _=>N-(intOf iv).toNat);case atStart=>exact⟨0,Nat.zero_le _,rfl,HB,HY,HM,HED,HE6,HG6,HP,HQ⟩
 case round=>
  clear HB HY HM HED HE6 HG6 HP HQ;obtain⟨i,hi,rfl,HB,HY,HM,HED,HE6,HG6,HP,HQ⟩:=hrel;by_cases hiN:i<N
  ·have i1:(i:Int)<N:=by omega
   obtain⟨hin,XI,KA,KI⟩:=K3.out i hiN;have i2:(i:Int)<=n6:=by omega
   have i3:(0:Int)<=i:=by omega
   have hc6:=HE6.rd.1;have i4:(i:Int)<=c6:=by omega
   replace KA:=hh_ KA;replace KI:=hh_ KI;have e0:=HG6.c0;have e1:=HG6.c1;obtain⟨gp,rfl⟩:=HP.addr (by omega);obtain⟨gq,rfl⟩:=HQ.addr (by omega);have HG6q:=HG6;have HE6q:=HE6;have HSC:Hid (∀z:World,Below wr.heap.size wr z->(Below wr.heap.size wr z/\z.cell? ⟨vb.heap.size,0,none⟩=some (.int .i64 s6)/\z.cell? ⟨vb.heap.size,1,none⟩=some (.slice B6 m6 d6))):=fun z hz=>⟨hz,up_ hz e0,up_ hz e1⟩
   have HZ1:Hid (Below wr.heap.size wr wr.drew):=br_.drew;have HZ2:Hid (Below wr.heap.size wr ((wr.alloc (Obj.cells #[.int .i64 0,.slice none 0 0] 26)).drew)):=(br_.alloc nr_ _).drew;have HN2:Hid (GC ((wr.alloc (Obj.cells #[.int .i64 0,.slice none 0 0] 26)).drew) wr.heap.size 0 none 0 0):=(GC.new _ _ _ _ _).drew;have KR:Hid (∀z:World,Below wr.heap.size wr z->_):=fun z hz=>KA.out z _ _ _ _ (HG6q.a.keep hz) (HE6q.keep hz)
   have HS1:=hh_ (HSC.out _ HZ1.out);have HS2:=hh_ (HSC.out _ HZ2.out);go_wp2;go_region_held3 (fun z=>Below wr.heap.size wr z/\z.cell? ⟨vb.heap.size,0,none⟩=some (.int .i64 s6)/\z.cell? ⟨vb.heap.size,1,none⟩=some (.slice B6 m6 d6))
    (first|exact HS1.out|exact HS2.out|assumption|(refine HSC.out _ ?_;first|assumption|exact bl_trans HZ1.out hb5|exact bl_trans HZ2.out hb5|exact bl_alloc (bl_trans HZ1.out hb5)|exact bl_set (bl_trans HZ2.out hb5) nr_|exact bl_set (bl_set (bl_trans HZ2.out hb5) nr_) nr_|exact bl_alloc HZ1.out)|fail)
    (first|(go_at_call 8;((with_reducible refine(KR.out _ HZ1.out).mono ?_);rintro e w5 ⟨A5,c5,rfl,hO5,hb5⟩))|(go_at_call 8;((with_reducible refine(KR.out _ HZ2.out).mono ?_);rintro e w5 ⟨A5,c5,rfl,hO5,hb5⟩;have hn5:=HN2.out.keep hb5;have n0:=hn5.c0;have n1:=hn5.c1;have n2:=hn5.f0;have n3:=hn5.f1)))
   all_goals
    first
     |(obtain⟨W5,hW5⟩: ∃W5,W5=((w5.setCell ⟨wr.heap.size,0,none⟩ (.int .i64 s6)).setCell ⟨wr.heap.size,1,none⟩ (.slice A5 m6 c5)):=⟨_,rfl⟩
       rw[<-hW5];have HQ5:Hid (GC W5 wr.heap.size s6 A5 m6 c5):=by rw[hW5];exact hn5.set
       have HZ5:Hid (Below wr.heap.size wr W5):=by rw[hW5];exact bl_set (bl_set (bl_trans HZ2.out hb5) nr_) nr_
       have HO5:Hid (Own W5 wr.heap.size W5.heap.size 3 1 A5 m6 c5 (fun j=> .int .i64 (XI j))):=by
        rw[hW5];exact(hO5.keep (fr2 _ wr.heap.size _ _) (.inr (by show wr.heap.size+1<=(wr.alloc _).heap.size;simp))).mono (Nat.le_of_lt (by show wr.heap.size<(wr.alloc _).heap.size;simp)) (by simp[World.setCell])
       clear hW5 hn5 n0 n1 n2 n3 hO5 hb5)
     |(obtain⟨W5,hW5⟩: ∃W5,W5=(w5.alloc (Obj.cells #[.int .i64 s6,.slice A5 m6 c5] 26)):=⟨_,rfl⟩
       rw[<-hW5];have HQ5:Hid (GC W5 w5.heap.size s6 A5 m6 c5):=by rw[hW5];exact GC.new _ _ _ _ _
       have HZ5:Hid (Below wr.heap.size wr W5):=by rw[hW5];exact bl_alloc (bl_trans HZ1.out hb5)
       have HO5:Hid (Own W5 wr.heap.size W5.heap.size 3 1 A5 m6 c5 (fun j=> .int .i64 (XI j))):=by rw[hW5];exact(hO5.alloc _).mono nr_ (by simp)
       clear hW5 hO5 hb5)
     |fail
   all_goals clear HSC HZ1 HZ2 HN2 KR HS1 HS2
   ·have hga:GA W5 A5 m6 c5 XI:=⟨HO5.rd⟩;clear HO5;replace HB:=hh_ (HB.keep HZ5.out);replace HY:=hh_ (HY.keep HZ5.out);replace HM:=hh_ (HM.keep HZ5.out);replace HED:=hh_ (HED.keep HZ5.out);replace HE6:=hh_ (HE6.keep HZ5.out);replace HG6:=hh_ (HG6.keep HZ5.out);replace HP:=hh_ (HP.keep HZ5.out);replace HQ:=hh_ (HQ.keep HZ5.out);clear HZ5 e0 e1 HG6q HE6q KA;have m0:=HQ5.c0;have m1:=HQ5.c1;have p0:=HP.at hiN;have q0:=HQ.at hiN;obtain⟨fb,hfb⟩: ∃b,b=f i:=⟨_,rfl⟩;rw[<-hfb] at p0 q0 KI;clear hfb;obtain⟨HSC,HZ0,HS1⟩:=hsc4 m0 m1 p0 q0;have KR1:Hid (∀z:World,Below W5.heap.size W5 z->_):=fun z hz=>KI.out z _ _ (hga.keep hz)
    go_wp2;go_region_held3 (fun z=>Below W5.heap.size W5 z/\z.cell? ⟨w5.heap.size,0,none⟩=some (.int .i64 s6)/\z.cell? ⟨w5.heap.size,1,none⟩=some (.slice A5 m6 c5)/\z.cell? ⟨gp,i,none⟩=some (.bool fb)/\z.cell? ⟨gq,i,none⟩=some (.bool fb))
     (first|exact HS1.out|assumption|exact HSC.out _ hz6|fail)
     (first|(go_at_call 17;((with_reducible refine(KR1.out _ HZ0.out).mono ?_);rintro e w6 ⟨rfl,hb6⟩;have hz6:=bl_trans HZ0.out hb6)))
    replace HB:=hh_ (HB.keep hz6);replace HY:=hh_ (HY.keep hz6);replace HM:=hh_ (HM.keep hz6);replace HED:=hh_ (HED.keep hz6);replace HE6:=hh_ (HE6.keep hz6);replace HG6:=hh_ (HG6.keep hz6);replace HP:=hh_ (HP.keep hz6);replace HQ:=hh_ (HQ.keep hz6);clear hb6 hz6 HSC HZ0 HS1 KR1;clear m0 m1 p0 q0 KI HQ5 hga;go_wp2;go_roundw;case rel=>exact⟨i+1,by omega,by go_num,HB,HY,HM,HED,HE6,HG6,HP,HQ⟩
    case measure=>simp[intOf]<;>omega
   ·have hga:GA W5 A5 m6 c5 XI:=⟨HO5.rd⟩;clear HO5;replace HB:=hh_ (HB.keep HZ5.out);replace HY:=hh_ (HY.keep HZ5.out);replace HM:=hh_ (HM.keep HZ5.out);replace HED:=hh_ (HED.keep HZ5.out);replace HE6:=hh_ (HE6.keep HZ5.out);replace HG6:=hh_ (HG6.keep HZ5.out);replace HP:=hh_ (HP.keep HZ5.out);replace HQ:=hh_ (HQ.keep HZ5.out);clear HZ5 e0 e1 HG6q HE6q KA;have m0:=HQ5.c0;have m1:=HQ5.c1;have p0:=HP.at hiN;have q0:=HQ.at hiN;obtain⟨fb,hfb⟩: ∃b,b=f i:=⟨_,rfl⟩;rw[<-hfb] at p0 q0 KI;clear hfb;obtain⟨HSC,HZ0,HS1⟩:=hsc4 m0 m1 p0 q0;have KR1:Hid (∀z:World,Below W5.heap.size W5 z->_):=fun z hz=>KI.out z _ _ (hga.keep hz)
    go_wp2;go_region_held3 (fun z=>Below W5.heap.size W5 z/\z.cell? ⟨wr.heap.size,0,none⟩=some (.int .i64 s6)/\z.cell? ⟨wr.heap.size,1,none⟩=some (.slice A5 m6 c5)/\z.cell? ⟨gp,i,none⟩=some (.bool fb)/\z.cell? ⟨gq,i,none⟩=some (.bool fb))
     (first|exact HS1.out|assumption|exact HSC.out _ hz7|fail)
     (first|(go_at_call 17;((with_reducible refine(KR1.out _ HZ0.out).mono ?_);rintro e w7 ⟨rfl,hb7⟩;have hz7:=bl_trans HZ0.out hb7)))
    replace HB:=hh_ (HB.keep hz7);replace HY:=hh_ (HY.keep hz7);replace HM:=hh_ (HM.keep hz7);replace HED:=hh_ (HED.keep hz7);replace HE6:=hh_ (HE6.keep hz7);replace HG6:=hh_ (HG6.keep hz7);replace HP:=hh_ (HP.keep hz7);replace HQ:=hh_ (HQ.keep hz7);clear hb7 hz7 HSC HZ0 HS1 KR1;clear m0 m1 p0 q0 KI HQ5 hga;go_wp2;go_roundw;case rel=>exact⟨i+1,by omega,by go_num,HB,HY,HM,HED,HE6,HG6,HP,HQ⟩
    case measure=>simp[intOf]<;>omega
  ·obtain rfl:i=N:=by omega
   have i1:(i:Int)<=i:=Int.le_refl _;have e0:=HG6.c0;have e1:=HG6.c1;clear K3;go_wp2_with fail
   refine(K4.out _ _ _ _ _ HG6.a HE6.out).mono ?_;rintro e v8 ⟨rfl,hb8⟩;clear e0 e1;replace HB:=hh_ (HB.keep hb8);replace HY:=hh_ (HY.keep hb8);replace HM:=hh_ (HM.keep hb8);replace HED:=hh_ (HED.keep hb8);replace HE6:=hh_ (HE6.keep hb8);replace HG6:=hh_ (HG6.keep hb8);replace HQ:=hh_ (HQ.keep hb8);clear hb8 K4 HP;have e0:=HG6.c0;have e1:=HG6.c1;go_upto_region 34 with fail
   go_cut [220] from 197 to 220 (fun t wx=>t=.bool false/\Hid (From w0 wx)/\Hid (BX wx A n c)/\Hid (Mx wx)/\Hid (ED wx A3 n3 c3 a3 v3 u3))
   case first=>
    rcases K6.out with hk|⟨j,hkj,hj,fj,fj1⟩
    ·have i2: ¬(0<=k):=by omega
     go_wp2_with fail
     refine(K5.out _ _ _ _ _ HG6.a HE6.out).mono ?_;rintro e v9 ⟨rfl,hb9⟩;clear e0 e1;replace HB:=hh_ (HB.keep hb9);replace HY:=hh_ (HY.keep hb9);replace HM:=hh_ (HM.keep hb9);replace HED:=hh_ (HED.keep hb9);replace HE6:=hh_ (HE6.keep hb9);replace HG6:=hh_ (HG6.keep hb9);replace HQ:=hh_ (HQ.keep hb9);clear hb9;have e0:=HG6.c0;have e1:=HG6.c1;go_wp2_with fail
     go_meet;exact⟨by first|rfl|trivial|simp,HB,HY,HM,HED⟩
    ·have HK:=hh_ hkj;have HF:=hh_ fj;have HF1:=hh_ fj1;clear hkj fj fj1;go_wp2_with fail
     refine(K5.out _ _ _ _ _ HG6.a HE6.out).mono ?_;rintro e v9 ⟨rfl,hb9⟩;clear e0 e1;replace HB:=hh_ (HB.keep hb9);replace HY:=hh_ (HY.keep hb9);replace HM:=hh_ (HM.keep hb9);replace HED:=hh_ (HED.keep hb9);replace HE6:=hh_ (HE6.keep hb9);replace HG6:=hh_ (HG6.keep hb9);replace HQ:=hh_ (HQ.keep hb9);clear hb9;have e0:=HG6.c0;have e1:=HG6.c1;obtain⟨gq,rfl⟩:=HQ.addr (by omega);obtain rfl:=HK.out;have i2:(0:Int)<=j:=by omega
     have i3:(j:Int)<i:=by omega
     have i4:(j:Int)+1<(i:Int):=by omega
     have i5:((j:Int)+1).toNat=j+1:=by omega
     have q0:=HQ.at (show j<i by omega);have q1:=HQ.at (show j+1<i by omega);rw[HF.out] at q0;rw[HF1.out] at q1;clear K6;go_wp2_with fail
     go_meet;exact⟨by first|rfl|trivial|simp,HB,HY,HM,HED⟩
   case rest=>
   clear HB HY HM HED HE6 HG6 HQ K5 K6 e0 e1;obtain⟨rfl,HB,HY,HM,HED⟩:=hcut;obtain⟨z0,hz0⟩: ∃z,z=wc:=⟨_,rfl⟩;rw[<-hz0] at HB HY HM HED ⊢;clear hz0;go_wp2_with fail
   refine(DrawSafeEdits_s HY.b hn2).mono ?_;rintro e vd ⟨s7,B7,m7,d7,x7,t7,rfl,hS⟩;have hm7:=hS.h7;have hga:GA vd B7 m7 d7 x7:=⟨hS.o1.rd⟩;have hbv:=hS.b;replace HB:=hh_ (HB.keep hbv);replace HY:=hh_ (HY.keep hbv);replace HM:=hh_ (HM.keep hbv);replace HED:=hh_ (HED.keep hbv);clear hbv hS;obtain⟨Ud,hW⟩: ∃U,U=vd.alloc (Obj.cells #[.int .i64 s7,.slice B7 m7 d7] 26):=⟨_,rfl⟩;have hbU:Below vd.heap.size vd Ud:=by rw[hW];exact br_.alloc nr_ _
   have HG7:Hid (GX Ud vd.heap.size s7 B7 m7 d7 x7):=by rw[hW];exact GX.new hga
   have HW:=hh_ hW;replace HB:=hh_ (HB.keep hbU);replace HY:=hh_ (HY.keep hbU);replace HM:=hh_ (HM.keep hbU);replace HED:=hh_ (HED.keep hbU);clear hbU hW hga;obtain⟨N7,a7,v7,u7,hN7,K1,K2⟩:=saf_pack s7 m7 x7 t7 hm7;replace K1:=hh_ K1;replace K2:=hh_ K2;have e0:=HG7.c0;have e1:=HG7.c1;go_wp2_with fail
   rw[<-HW.out];refine(K1.out _ _ _ HG7.a).mono ?_;rintro e w8 ⟨As,cs,rfl,hs7,hb8⟩;clear HW;clear e0 e1;replace HB:=hh_ (HB.keep hb8);replace HY:=hh_ (HY.keep hb8);replace HM:=hh_ (HM.keep hb8);replace HED:=hh_ (HED.keep hb8);replace HG7:=hh_ (HG7.keep hb8);clear hb8;have e0:=HG7.c0;have e1:=HG7.c1;have HE7:=hh_ hs7;clear hs7;go_wp2_with fail
   refine(K2.out _ _ _ HG7.a).mono ?_;rintro e w9 ⟨At,ct,rfl,hs8,hb9⟩;clear e0 e1;replace HB:=hh_ (HB.keep hb9);replace HY:=hh_ (HY.keep hb9);replace HM:=hh_ (HM.keep hb9);replace HED:=hh_ (HED.keep hb9);replace HG7:=hh_ (HG7.keep hb9);replace HE7:=hh_ (HE7.keep hb9);clear hb9;have e0:=HG7.c0;have e1:=HG7.c1;have HE8:=hh_ hs8;clear hs8 K1 K2 e0 e1 HG7;go_wp2;obtain⟨wo,rfl⟩: ∃z,z=w9:=⟨_,rfl⟩;go_loopw [33] (fun iv wr=> ∃i:Nat,i<=N7/\iv=.int .i64 i/\Hid (From w0 wr)/\Hid (BX wr A n c)/\Hid (Mx wr)/\Hid (ED wr A3 n3 c3 a3 v3 u3)/\Hid (ED wr As N7 cs a7 v7 u7)/\Hid (ED wr At N7 ct a7 v7 u7)) (fun iv _=>N7-(intOf iv).toNat);case atStart=>exact⟨0,Nat.zero_le _,rfl,HB,HY,HM,HED,HE7,HE8⟩
   case round=>
    clear HB HY HM HED HE7 HE8;obtain⟨i,hi,rfl,HB,HY,HM,HED,HE7,HE8⟩:=hrel;by_cases hiN:i<N7
    ·have i1:(i:Int)<N7:=by omega
     obtain⟨bs,os,rfl⟩:=HE7.addr (by omega);obtain⟨bt,ot,rfl⟩:=HE8.addr (by omega);obtain⟨p0,p1,p2⟩:=HE7.at hiN;obtain⟨q0,q1,q2⟩:=HE8.at hiN;obtain⟨ba,hba⟩: ∃b,b=a7 i:=⟨_,rfl⟩;obtain⟨bv,hbv⟩: ∃b,b=v7 i:=⟨_,rfl⟩;obtain⟨bu,hbu⟩: ∃b,b=u7 i:=⟨_,rfl⟩;rw[<-hba] at p0 q0;rw[<-hbv] at p1 q1;rw[<-hbu] at p2 q2;clear hba hbv hbu;go_wp2;go_quiet (fail)
     have hbq:Below wr.heap.size wr (wr.drewN nq):=bl_drewN wr nq;replace HB:=hh_ (HB.keep hbq);replace HY:=hh_ (HY.keep hbq);replace HM:=hh_ (HM.keep hbq);replace HED:=hh_ (HED.keep hbq);replace HE7:=hh_ (HE7.keep hbq);replace HE8:=hh_ (HE8.keep hbq);clear p0 p1 p2 q0 q1 q2 hbq;go_wp2;go_roundw;case rel=>exact⟨i+1,by omega,by go_num,HB,HY,HM,HED,HE7,HE8⟩
     case measure=>simp[intOf]<;>omega
    ·obtain rfl:i=N7:=by omega
     have i1:(i:Int)<=i:=Int.le_refl _;obtain⟨text,NT,three,hts,hNT,hte,hth,K1,K2,K3⟩:=txt_pack n3 a3 v3 u3 hT6A;replace K1:=hh_ K1;replace K2:=hh_ K2;replace K3:=hh_ K3;have HTE:=hh_ hte;have HTH:=hh_ hth;clear HE7 HE8 hte hth;go_wp2_with fail
     refine(K1.out _ _ _ HED.out).mono ?_;rintro e va ⟨rfl,hba⟩;replace HB:=hh_ (HB.keep hba);replace HY:=hh_ (HY.keep hba);replace HM:=hh_ (HM.keep hba);replace HED:=hh_ (HED.keep hba);clear hba;go_wp2_with fail
     refine(K3.out _ HM.out).mono ?_;rintro e vb ⟨Ax,cx,rfl,hba⟩;replace HB:=hh_ (HB.keep hba);replace HY:=hh_ (HY.keep hba);replace HM:=hh_ (HM.keep hba);replace HED:=hh_ (HED.keep hba);clear hba;go_wp2_with fail
     refine(DrawParseEdits_s HY.b hn2).mono ?_;rintro e vc ⟨tw,rfl,htw,hba⟩;replace HB:=hh_ (HB.keep hba);replace HY:=hh_ (HY.keep hba);replace HM:=hh_ (HM.keep hba);replace HED:=hh_ (HED.keep hba);clear hba;obtain⟨NW,four,hNW,K4,K5⟩:=par_pack tw htw;replace K4:=hh_ K4;replace K5:=hh_ K5;go_wp2_with fail
     refine(K4.out _ HM.out).mono ?_;rintro e vd ⟨Ay,cy,rfl,hba⟩;replace HB:=hh_ (HB.keep hba);replace HY:=hh_ (HY.keep hba);replace HM:=hh_ (HM.keep hba);replace HED:=hh_ (HED.keep hba);clear hba;go_wp2_with fail
     refine(K5.out _).mono ?_;rintro e ve ⟨Az,cz,rfl,hba⟩;replace HB:=hh_ (HB.keep hba);replace HY:=hh_ (HY.keep hba);replace HM:=hh_ (HM.keep hba);replace HED:=hh_ (HED.keep hba);clear hba;go_wp2_with fail
     refine(K2.out _ _ _ HED.out).mono ?_;rintro e vf ⟨rfl,hba⟩;replace HB:=hh_ (HB.keep hba);replace HY:=hh_ (HY.keep hba);replace HM:=hh_ (HM.keep hba);replace HED:=hh_ (HED.keep hba);clear hba;clear K1 K2 K3 K4 K5;cases three
     ·have hte:=HTE.out;go_wp2;go_ret;exact⟨ret_bool (by simp),HB.below⟩
     ·have hte:=HTE.out;obtain rfl:=HTH.out rfl;go_wp2;go_ret;exact⟨ret_bool (by simp),HB.below⟩
def leadsAt (P:Program) (i:FuncId):List FuncId:=(P.funcs[i]?).elim [] P.leadsTo
section
variable {P:Program} {f g h:FuncId}
theorem recurses_of (hu:P.unfollowed f=true):P.recurses f=true:=by unfold Program.recurses;rw[hu];rfl
variable {lo hi:Nat}
end
def tabAt (adj:List (List Nat)) (i:Nat):List Nat:=adj.getD i []
def goT (adj:List (List Nat)):Nat->List Nat->Nat->List Nat->List Nat
 |0,_,_,seen=>seen.reverse
 |_+1,[],_,seen=>seen.reverse
 |n+1,f::todo,k,seen=>bif k.testBit f then goT adj n todo k seen else goT adj n (tabAt adj f++todo) (k|||(1<<<f)) (f::seen)
theorem goT_eq {P:Program} {adj:List (List Nat)} (hadj: ∀i,leadsAt P i=tabAt adj i): ∀(n:Nat) (todo:List Nat) (k:Nat) (seen:List Nat),(∀i,k.testBit i=seen.contains i)->goT adj n todo k seen=P.closureVia n todo seen
 |0,todo,k,seen,_=>by unfold goT Program.closureVia;rfl
 |n+1,[],k,seen,_=>by unfold goT Program.closureVia;rfl
 |n+1,f::todo,k,seen,h=>by
  unfold goT
  conv=>rhs;unfold Program.closureVia
  rw[h f]
  cases hs:seen.contains f
  ·show goT adj n (tabAt adj f++todo) (k|||(1<<<f)) (f::seen)=P.closureVia n (leadsAt P f++todo) (f::seen)
   rw[hadj f]
   refine goT_eq hadj n _ _ _ fun i=> ?_
   rw[Nat.testBit_or,h i,List.contains_cons,Nat.one_shiftLeft,Nat.testBit_two_pow,Bool.or_comm]
   congr 1
   by_cases e:f=i
   ·subst e;simp
   ·have e2: ¬i=f:=fun h=>e h.symm
    simp[e,e2]
  ·exact goT_eq hadj n todo k seen h
theorem tab_all {P:Program} {adj:List (List Nat)} (h1:P.funcs.size=adj.length) (h2:(List.range adj.length).map (leadsAt P)=adj): ∀i,leadsAt P i=tabAt adj i:=by
 intro i;by_cases hi:i<adj.length
 ·have e:((List.range adj.length).map (leadsAt P))[i]? =adj[i]? :=by rw[h2]
  rw[List.getElem?_map,List.getElem?_range hi,Option.map_some,List.getElem?_eq_getElem hi] at e;unfold tabAt;rw[Option.some.inj e];simp[List.getD,hi]
 ·unfold leadsAt tabAt;rw[Array.getElem?_eq_none (by rw[h1];exact Nat.le_of_not_lt hi)];simp[List.getD,List.getElem?_eq_none (Nat.le_of_not_lt hi)]
theorem tab_sum {P:Program} {adj:List (List Nat)} (h1:P.funcs.size=adj.length) (h2:(List.range adj.length).map (leadsAt P)=adj):(P.funcs.toList.map fun g=>(P.leadsTo g).length+1).sum=(adj.map fun l=>l.length+1).sum:=by
 have e:P.funcs.toList.map P.leadsTo=adj:=by
  rw[<-h2];apply List.ext_getElem
  ·simp[h1]
  ·intro i h3 h4;have hi:i<P.funcs.size:=by simpa using h3
   simp[leadsAt,hi]
 rw[<-e,List.map_map];rfl
theorem closure_tab {P:Program} {adj:List (List Nat)} (h1:P.funcs.size=adj.length) (h2:(List.range adj.length).map (leadsAt P)=adj) (f:FuncId):P.closure f=goT adj (1+(adj.map fun l=>l.length+1).sum) [f] 0 []:=by
 unfold Program.closure;rw[tab_sum h1 h2];exact(goT_eq (tab_all h1 h2) _ _ _ _ (fun i=>by simp)).symm
def adjT:List (List Nat):= [[],[],[1],[5,6,7,8,9,10,7,10,11,12,13,7,10,14,15,16,8,17,18,19,20,21,22,23,24,25,24,26,27],[28,30,29,30,31,30,32],[],[33,34,35],[36,37,38],[39,40,41],[],[],[33,42],[36,36,43,44,44],[39,39,45,45],[46],[7,7,47],[8,40,17,41],[48,49,50,51,52,53,54,55,56],[15],[16],[57],[36,43,44,38,47],[39,45,41,17],[58,59,61,61,62],[63,23],[33,34,35,27,64,65,66],[67,27],[68,68,69,69],[70],[39,71,72,73,75,74,76,74,77,74],[78],[36,79,80,81,82,83,84,62],[85],[],[86,64,87,87],[40,64,39,64,64,45,41,88,88,87,64],[60,60,44,44,44],[],[89,90],[68],[],[91,92],[93,40,94,95,88,91,88],[],[],[],[33,96,97,35],[98,99,100,101,102,103,104,105,106],[107],[108],[109],[110,39],[111],[112],[113],[114],[115,39],[33,96,93],[116],[60,60],[],[117],[118,119,119,119,120],[121],[122,122,122,122,122],[123,64,64,122,64],[64],[],[],[],[],[],[124,125,126,110,127,128,129,130,131],[69],[],[132],[133],[134],[],[],[135,136,137,138,139,140,141,142,143],[61,144],[145],[146],[147],[],[64,64,66,148,64,64,88,91,149,149],[64],[64],[37,150,44,151],[37,152,151],[40,153,45],[40,153,45],[154,88,155],[39],[39,45],[71,88,66,64],[64,156,157,158,159,160,154],[161],[162],[163],[138,36],[164],[165],[166],[167],[168,36],[39,169],[48,171,170],[39,172],[173],[39,174],[39],[39,175,177,176,39,178,178],[39,179],[39,155,180,181],[],[182],[183,184],[183],[],[185,186,187],[],[64,64,122],[39,188],[124,189],[190,125],[191,124],[39,192],[39,193],[124,194],[195,196],[39,40,95,95,197,198,92],[132,94,132,199,199],[39,200],[201,204,203],[135,206],[207,136],[208],[209,135],[211,203,210],[213,203,210],[135,215],[216,217],[62],[37,36,218,219,220,44,151,218],[221,145,145,222,222,223,224,224],[36,225,223,226],[68,91],[64,91],[60,36],[],[150,44],[39],[88,34,64,148,64,64,88,91],[227,177,45],[34,64,228,88,229],[88,230,64,64,231],[88,34,64,64,177,91,88,91],[88,232,233,88,234],[34,39,88,92],[36,225,223,236,235,223],[239,238],[240,203,210],[242,243],[36,225,223,244,245],[36,225,246,223,223,247,248,225,248],[36,225,223,249,235,223],[242,251],[255],[256,257,170],[39,255],[256,258,172],[39,68,188],[255,178],[259],[39,259],[260],[227],[227,68,177],[39,261],[39,263,262],[264],[265],[266],[267,268],[267,269,187],[270],[271,272,271,188],[39,273],[274],[274],[275,271,272],[276,256,45,193],[39,277],[39,188],[94,195],[278,279,198],[],[],[262,177,45],[202],[280,281],[282,36],[205],[284,280],[36,285],[286,203,210],[60,288,203,210],[289,203,210],[],[212],[290,205,202],[214],[291,44],[292,203,210],[294,295,203],[221,216],[36,44],[296,220],[298,297],[36,37,225],[],[60,44],[44],[],[300,223,223,223],[39],[39,301,301],[40,302,177,91],[88,303,91,64,64,88,91],[304,91],[34,39,88,64,91,92],[64,64,88,87],[305,91],[],[237],[223],[306,307,98],[],[241],[44,44,44],[36,225],[309,225,248],[],[222,310],[311],[150,44,312],[313,312],[250],[313,60,44,223],[252,253,254],[313,314],[315],[36,316,300],[227],[],[],[45,45,45],[227],[68],[39,68,317],[177],[39,262,262,255],[318,319,320,321],[],[],[],[322],[],[323,324,323,325,324,326],[327,45],[327,45],[328,328,328],[39,275,329],[327,45,45,45,45,45,45],[327,45],[330,256,45,277],[39,45],[45,45,45],[291,44],[],[222,283],[331],[],[332,332,332],[287],[280,333],[202],[290],[280,334],[60,283,36],[280,293],[],[202],[205],[225,223,223,44],[],[299],[],[223],[45],[335],[88,156,336,231],[68,68,68],[337,68],[36,225,237,44],[222,283,308],[],[313,237],[],[312],[223],[36,225,60],[223,44],[60,36,339,338],[340,309],[45,317],[],[342,341,343],[],[344,345],[],[346],[],[],[347],[337,39,227],[39,68,68,68,259,259,45],[327,45,45,45,45,45,45],[327,45],[],[150,225,348],[],[],[327],[88,64,64,64,64,87],[68],[349],[],[36,225,300,300],[],[],[],[],[350,351],[],[],[44,44,44,312,223],[44],[],[],[],[],[],[],[],[],[],[],[],[],[],[],[],[],[],[],[],[],[],[],[],[],[],[],[]]
set_option maxRecDepth 100000 in
theorem tab_len:Tryz.prog.funcs.size=adjT.length:=by kernel_rfl
set_option maxRecDepth 100000 in
theorem tab_is:(List.range adjT.length).map (leadsAt Tryz.prog)=adjT:=by kernel_rfl
def cloLFnJournals:List Nat:= [3,5,6,33,34,86,64,122,66,148,68,91,40,153,39,45,88,149,87,35,41,92,7,36,60,44,37,38,89,150,151,90,152,8,9,10,11,42,93,154,155,227,177,260,94,95,12,43,13,14,46,96,71,97,156,228,301,229,302,335,327,337,157,230,303,336,231,304,158,159,232,233,234,305,160,15,47,98,161,225,223,236,237,235,99,162,239,238,306,307,222,283,331,308,100,163,240,241,203,282,210,101,138,208,288,202,280,291,281,102,164,242,243,309,313,248,312,103,165,244,245,310,104,166,246,311,247,105,167,249,250,106,168,251,252,314,253,315,339,338,349,254,316,340,300,16,17,48,107,169,255,49,108,171,170,256,257,50,109,172,258,51,110,173,188,271,272,52,111,174,178,53,112,54,113,175,259,176,55,114,179,56,115,180,261,317,181,263,262,18,19,20,57,21,22,23,58,116,59,61,117,182,264,318,319,342,341,343,320,321,344,345,350,351,62,118,183,265,184,266,119,120,24,63,121,185,267,268,322,186,269,187,270,323,346,324,325,326,347,25,27,69,65,123,26,67]
end Go.Proofs.YtfabbohijhjpcaaGreatDoor
