/- Lemmas. -/
import Derived.Test.YtfabbohijhjpcaaGreatDoorRbThoI
import Derived.Test.YtfabbohijhjpcaaGreatDoorRbSidI
/-
-/
namespace Go.Proofs.YtfabbohijhjpcaaGreatDoor
open Go.RowKit
set_option maxHeartbeats 6400000
noncomputable def isB (sz:Int) (m:Nat) (x:Nat->Int) (s:List UInt8):Bool:=
 if s= [99,104,111,114,100,97,108] then chB sz m x else if s= [105,110,116,101,114,118,97,108] then ivG sz m x else if s= [112,114,111,112,101,114] then ppB sz m x else if s= [99,111,103,114,97,112,104] then cgB sz m x else if s= [115,112,108,105,116] then slB sz m x else if s= [116,104,114,101,115,104,111,108,100] then toB sz m x else if s= [98,105,112,97,114,116,105,116,101] then biB sz m x else if s= [115,116,114,111,110,103] then sgB sz m x else if s= [112,101,114,102,101,99,116] then peB sz m x else false
section
variable (sz:Int) (A:Option Addr) (m c:Nat) (x:Nat->Int) (str:ByteArray) (w:World)
theorem IsChordal_ig (h:GA w A m c x) (hm:m<=1048576):
 Calls Tryz.prog 98 #[.agg #[.int .i64 sz,.slice A m c]] w fun e w'=>e=.returned (.bool (chB sz m x))/\Below w.heap.size w w':=IsChordal_ix sz A m c x w w.heap.size h.rd nr_ hm
theorem IsStronglyChordal_ig (h:GA w A m c x) (hm:m<=1048576):
 Calls Tryz.prog 105 #[.agg #[.int .i64 sz,.slice A m c]] w fun e w'=>e=.returned (.bool (sgB sz m x))/\Below w.heap.size w w':=IsStronglyChordal_i sz A m c x w w.heap.size h.rd nr_ hm
set_option maxRecDepth 100000 in
theorem IsIn_i (h:GA w A m c x) (hm:m<=1048576):
 Calls Tryz.prog 47 #[.agg #[.int .i64 sz,.slice A m c],.string str] w fun e w'=>e=.returned (.bool (isB sz m x str.toList))/\Below w.heap.size w w':=by
 obtain⟨W,hW,HB,HK,HC⟩:=gaW sz h;have HW:=hh_ hW;have HR:Hid (isB sz m x str.toList=isB sz m x str.toList):=rfl;clear hW h;by_cases e0:str.toList= [99,104,111,114,100,97,108]
 ·have r:Hid (isB sz m x str.toList=chB sz m x):=by show _=_;unfold isB;rw[if_pos e0]
  have f0:(str.toList== [99,104,111,114,100,97,108])=true:=by simpa using e0
  clear HR e0;go_enter Tryz.func47,Tryz.ntmps47;obtain⟨e0,e1⟩:=gc_ HC;go_wp2_with fail
  rw[<-HW.out];refine(IsChordal_ig sz A m c x W HK hm).mono ?_;rintro e w1 ⟨rfl,hb1⟩;clear HW;clear e0 e1;obtain⟨HB,HK,HC,e0,e1⟩:=kC_ HB HK HC hb1;clear hb1;go_wp2;go_ret;exact⟨ret_bool r.symm,HB.below⟩
 by_cases e1:str.toList= [105,110,116,101,114,118,97,108]
 ·have r:Hid (isB sz m x str.toList=ivG sz m x):=by show _=_;unfold isB;rw[if_neg e0,if_pos e1]
  have f0:(str.toList== [99,104,111,114,100,97,108])=false:=by simpa using e0
  have f1:(str.toList== [105,110,116,101,114,118,97,108])=true:=by simpa using e1
  clear HR e0 e1;go_enter Tryz.func47,Tryz.ntmps47;obtain⟨e0,e1⟩:=gc_ HC;go_wp2_with fail
  rw[<-HW.out];refine(IsInterval_i sz A m c x W HK hm).mono ?_;rintro e w2 ⟨rfl,hb2⟩;clear HW;clear e0 e1;obtain⟨HB,HK,HC,e0,e1⟩:=kC_ HB HK HC hb2;clear hb2;go_wp2;go_ret;exact⟨ret_bool r.symm,HB.below⟩
 by_cases e2:str.toList= [112,114,111,112,101,114]
 ·have r:Hid (isB sz m x str.toList=ppB sz m x):=by show _=_;unfold isB;rw[if_neg e0,if_neg e1,if_pos e2]
  have f0:(str.toList== [99,104,111,114,100,97,108])=false:=by simpa using e0
  have f1:(str.toList== [105,110,116,101,114,118,97,108])=false:=by simpa using e1
  have f2:(str.toList== [112,114,111,112,101,114])=true:=by simpa using e2
  clear HR e0 e1 e2;go_enter Tryz.func47,Tryz.ntmps47;obtain⟨e0,e1⟩:=gc_ HC;go_wp2_with fail
  rw[<-HW.out];refine(IsProper_i sz A m c x W HK hm).mono ?_;rintro e w3 ⟨rfl,hb3⟩;clear HW;clear e0 e1;obtain⟨HB,HK,HC,e0,e1⟩:=kC_ HB HK HC hb3;clear hb3;go_wp2;go_ret;exact⟨ret_bool r.symm,HB.below⟩
 by_cases e3:str.toList= [99,111,103,114,97,112,104]
 ·have r:Hid (isB sz m x str.toList=cgB sz m x):=by show _=_;unfold isB;rw[if_neg e0,if_neg e1,if_neg e2,if_pos e3]
  have f0:(str.toList== [99,104,111,114,100,97,108])=false:=by simpa using e0
  have f1:(str.toList== [105,110,116,101,114,118,97,108])=false:=by simpa using e1
  have f2:(str.toList== [112,114,111,112,101,114])=false:=by simpa using e2
  have f3:(str.toList== [99,111,103,114,97,112,104])=true:=by simpa using e3
  clear HR e0 e1 e2 e3;go_enter Tryz.func47,Tryz.ntmps47;obtain⟨e0,e1⟩:=gc_ HC;go_wp2_with fail
  rw[<-HW.out];refine(IsCograph_i sz A m c x W HK hm).mono ?_;rintro e w4 ⟨rfl,hb4⟩;clear HW;clear e0 e1;obtain⟨HB,HK,HC,e0,e1⟩:=kC_ HB HK HC hb4;clear hb4;go_wp2;go_ret;exact⟨ret_bool r.symm,HB.below⟩
 by_cases e4:str.toList= [115,112,108,105,116]
 ·have r:Hid (isB sz m x str.toList=slB sz m x):=by show _=_;unfold isB;rw[if_neg e0,if_neg e1,if_neg e2,if_neg e3,if_pos e4]
  have f0:(str.toList== [99,104,111,114,100,97,108])=false:=by simpa using e0
  have f1:(str.toList== [105,110,116,101,114,118,97,108])=false:=by simpa using e1
  have f2:(str.toList== [112,114,111,112,101,114])=false:=by simpa using e2
  have f3:(str.toList== [99,111,103,114,97,112,104])=false:=by simpa using e3
  have f4:(str.toList== [115,112,108,105,116])=true:=by simpa using e4
  clear HR e0 e1 e2 e3 e4;go_enter Tryz.func47,Tryz.ntmps47;obtain⟨e0,e1⟩:=gc_ HC;go_wp2_with fail
  rw[<-HW.out];refine(IsSplit_i sz A m c x W HK hm).mono ?_;rintro e w5 ⟨rfl,hb5⟩;clear HW;clear e0 e1;obtain⟨HB,HK,HC,e0,e1⟩:=kC_ HB HK HC hb5;clear hb5;go_wp2;go_ret;exact⟨ret_bool r.symm,HB.below⟩
 by_cases e5:str.toList= [116,104,114,101,115,104,111,108,100]
 ·have r:Hid (isB sz m x str.toList=toB sz m x):=by show _=_;unfold isB;rw[if_neg e0,if_neg e1,if_neg e2,if_neg e3,if_neg e4,if_pos e5]
  have f0:(str.toList== [99,104,111,114,100,97,108])=false:=by simpa using e0
  have f1:(str.toList== [105,110,116,101,114,118,97,108])=false:=by simpa using e1
  have f2:(str.toList== [112,114,111,112,101,114])=false:=by simpa using e2
  have f3:(str.toList== [99,111,103,114,97,112,104])=false:=by simpa using e3
  have f4:(str.toList== [115,112,108,105,116])=false:=by simpa using e4
  have f5:(str.toList== [116,104,114,101,115,104,111,108,100])=true:=by simpa using e5
  clear HR e0 e1 e2 e3 e4 e5;go_enter Tryz.func47,Tryz.ntmps47;obtain⟨e0,e1⟩:=gc_ HC;go_wp2_with fail
  rw[<-HW.out];refine(IsThreshold_i sz A m c x W HK hm).mono ?_;rintro e w6 ⟨rfl,hb6⟩;clear HW;clear e0 e1;obtain⟨HB,HK,HC,e0,e1⟩:=kC_ HB HK HC hb6;clear hb6;go_wp2;go_ret;exact⟨ret_bool r.symm,HB.below⟩
 by_cases e6:str.toList= [98,105,112,97,114,116,105,116,101]
 ·have r:Hid (isB sz m x str.toList=biB sz m x):=by show _=_;unfold isB;rw[if_neg e0,if_neg e1,if_neg e2,if_neg e3,if_neg e4,if_neg e5,if_pos e6]
  have f0:(str.toList== [99,104,111,114,100,97,108])=false:=by simpa using e0
  have f1:(str.toList== [105,110,116,101,114,118,97,108])=false:=by simpa using e1
  have f2:(str.toList== [112,114,111,112,101,114])=false:=by simpa using e2
  have f3:(str.toList== [99,111,103,114,97,112,104])=false:=by simpa using e3
  have f4:(str.toList== [115,112,108,105,116])=false:=by simpa using e4
  have f5:(str.toList== [116,104,114,101,115,104,111,108,100])=false:=by simpa using e5
  have f6:(str.toList== [98,105,112,97,114,116,105,116,101])=true:=by simpa using e6
  clear HR e0 e1 e2 e3 e4 e5 e6;go_enter Tryz.func47,Tryz.ntmps47;obtain⟨e0,e1⟩:=gc_ HC;go_wp2_with fail
  rw[<-HW.out];refine(IsBipartite_i sz A m c x W HK hm).mono ?_;rintro e w7 ⟨rfl,hb7⟩;clear HW;clear e0 e1;obtain⟨HB,HK,HC,e0,e1⟩:=kC_ HB HK HC hb7;clear hb7;go_wp2;go_ret;exact⟨ret_bool r.symm,HB.below⟩
 by_cases e7:str.toList= [115,116,114,111,110,103]
 ·have r:Hid (isB sz m x str.toList=sgB sz m x):=by show _=_;unfold isB;rw[if_neg e0,if_neg e1,if_neg e2,if_neg e3,if_neg e4,if_neg e5,if_neg e6,if_pos e7]
  have f0:(str.toList== [99,104,111,114,100,97,108])=false:=by simpa using e0
  have f1:(str.toList== [105,110,116,101,114,118,97,108])=false:=by simpa using e1
  have f2:(str.toList== [112,114,111,112,101,114])=false:=by simpa using e2
  have f3:(str.toList== [99,111,103,114,97,112,104])=false:=by simpa using e3
  have f4:(str.toList== [115,112,108,105,116])=false:=by simpa using e4
  have f5:(str.toList== [116,104,114,101,115,104,111,108,100])=false:=by simpa using e5
  have f6:(str.toList== [98,105,112,97,114,116,105,116,101])=false:=by simpa using e6
  have f7:(str.toList== [115,116,114,111,110,103])=true:=by simpa using e7
  clear HR e0 e1 e2 e3 e4 e5 e6 e7;go_enter Tryz.func47,Tryz.ntmps47;obtain⟨e0,e1⟩:=gc_ HC;go_wp2_with fail
  rw[<-HW.out];refine(IsStronglyChordal_ig sz A m c x W HK hm).mono ?_;rintro e w8 ⟨rfl,hb8⟩;clear HW;clear e0 e1;obtain⟨HB,HK,HC,e0,e1⟩:=kC_ HB HK HC hb8;clear hb8;go_wp2;go_ret;exact⟨ret_bool r.symm,HB.below⟩
 by_cases e8:str.toList= [112,101,114,102,101,99,116]
 ·have r:Hid (isB sz m x str.toList=peB sz m x):=by show _=_;unfold isB;rw[if_neg e0,if_neg e1,if_neg e2,if_neg e3,if_neg e4,if_neg e5,if_neg e6,if_neg e7,if_pos e8]
  have f0:(str.toList== [99,104,111,114,100,97,108])=false:=by simpa using e0
  have f1:(str.toList== [105,110,116,101,114,118,97,108])=false:=by simpa using e1
  have f2:(str.toList== [112,114,111,112,101,114])=false:=by simpa using e2
  have f3:(str.toList== [99,111,103,114,97,112,104])=false:=by simpa using e3
  have f4:(str.toList== [115,112,108,105,116])=false:=by simpa using e4
  have f5:(str.toList== [116,104,114,101,115,104,111,108,100])=false:=by simpa using e5
  have f6:(str.toList== [98,105,112,97,114,116,105,116,101])=false:=by simpa using e6
  have f7:(str.toList== [115,116,114,111,110,103])=false:=by simpa using e7
  have f8:(str.toList== [112,101,114,102,101,99,116])=true:=by simpa using e8
  clear HR e0 e1 e2 e3 e4 e5 e6 e7 e8;go_enter Tryz.func47,Tryz.ntmps47;obtain⟨e0,e1⟩:=gc_ HC;go_wp2_with fail
  rw[<-HW.out];refine(IsPerfect_i sz A m c x W HK hm).mono ?_;rintro e w9 ⟨rfl,hb9⟩;clear HW;clear e0 e1;obtain⟨HB,HK,HC,e0,e1⟩:=kC_ HB HK HC hb9;clear hb9;go_wp2;go_ret;exact⟨ret_bool r.symm,HB.below⟩
 have r:Hid (isB sz m x str.toList=false):=by show _=_;unfold isB;rw[if_neg e0,if_neg e1,if_neg e2,if_neg e3,if_neg e4,if_neg e5,if_neg e6,if_neg e7,if_neg e8]
 have f0:(str.toList== [99,104,111,114,100,97,108])=false:=by simpa using e0
 have f1:(str.toList== [105,110,116,101,114,118,97,108])=false:=by simpa using e1
 have f2:(str.toList== [112,114,111,112,101,114])=false:=by simpa using e2
 have f3:(str.toList== [99,111,103,114,97,112,104])=false:=by simpa using e3
 have f4:(str.toList== [115,112,108,105,116])=false:=by simpa using e4
 have f5:(str.toList== [116,104,114,101,115,104,111,108,100])=false:=by simpa using e5
 have f6:(str.toList== [98,105,112,97,114,116,105,116,101])=false:=by simpa using e6
 have f7:(str.toList== [115,116,114,111,110,103])=false:=by simpa using e7
 have f8:(str.toList== [112,101,114,102,101,99,116])=false:=by simpa using e8
 clear e0 e1 e2 e3 e4 e5 e6 e7 e8;go_enter Tryz.func47,Tryz.ntmps47;go_wp2;rw[<-HW.out];go_ret;exact⟨ret_bool r.symm,HB.below⟩
end
set_option maxHeartbeats 6400000
set_option maxRecDepth 100000 in
theorem l12_s {A:Option Addr} {m c:Nat} {r:Nat->Nat}: ∀(j:Nat) (l:List Nat) (Al:Option Addr) (cl:Nat) (w:World) (lo:Nat),l.length+j=m->(∀v∈l,v<m)->GV w A m c r->ON lo w Al cl l->lo<=w.heap.size->
 Calls Tryz.prog 172 #[.agg #[.int .i64 m,.slice A m c],.slice Al l.length cl] w fun e w'=> ∃A' c',e=.returned (.tuple #[.slice A' ((seaG m (umB r) (fun _=>true) j l).getD []).length c',.bool (seaG m (umB r) (fun _=>true) j l).isSome])/\ON lo w' A' c' ((seaG m (umB r) (fun _=>true) j l).getD [])/\Below w.heap.size w w':=by
 intro j;induction j with
 |zero=>
  intro l Al cl w lo hlm hlt h hO hlo;have heq:((l.length:Int)==(m:Int))=true:=by simp;omega
  have heq2:(l.length=m)=True:=by simp;omega
  have HO:=hh_ hO;have HS:Hid (seaG m (umB r) (fun _=>true) 0 l=some l):=rfl;clear hO hlm hlt;obtain⟨W,hW,HB,HG⟩:=gbW h;have HW:=hh_ hW;clear hW h;obtain⟨e0,e1⟩:=gx_ HG;replace HO:=hh_ (HO.keep HB.below);go_enter Tryz.func172,Tryz.ntmps172;go_wp2_with fail
  rw[<-HW.out];go_wp2;go_ret2;exact⟨_,_,by rw[HS.out];rfl,by rw[HS.out];exact HO.out,HB.below⟩
 |succ j ih=>
  intro l Al cl w lo hlm hlt h hO hlo;have IH:=hh_ ih;have hne:((l.length:Int)==(m:Int))=false:=by simp;omega
  have hne2:(l.length=m)=False:=by simp;omega
  have hn7:=h.vg.n7;have Hlm:=hh_ hlm;have Hlt:=hh_ hlt;have hl7:l.length<=6:=by omega
  have HO:=hh_ hO;clear ih hO hlm hlt;obtain⟨W,hW,HB,HG⟩:=gbW h;have HW:=hh_ hW;clear hW h;obtain⟨e0,e1⟩:=gx_ HG;replace HO:=hh_ (HO.keep HB.below);have hz:=HB.below.size;have HR0:Hid (From W W):=From.refl W;go_enter Tryz.func172,Tryz.ntmps172;go_wp2_with fail
  rw[<-HW.out];go_wp2;go_loopw [6] (fun i wr=> ∃v:Nat,v<=m/\i=.int .i64 v/\Hid (∀u,u<v->atG m (umB r) (fun _=>true) j l u=none)/\Hid (From W wr)) (fun i _=>m-(intOf i).toNat);case atStart=>exact⟨0,Nat.zero_le _,rfl,(fun u hu=>absurd hu (by omega)),HR0⟩
  case round=>
   clear HR0 e0 e1;obtain⟨v,hv,rfl,hall,HR⟩:=hrel;by_cases hvm:v<m
   ·have i1:(v:Int)<m:=by omega
    have HBr:=hh_ (HB.up HR.out);have HGr:=hh_ (HG.keep HR.below);have HOr:=hh_ (HO.keep HR.below);have HLr:Hid (LN wr Al cl l):=HOr.ln;have hzr:=HBr.below.size;have e0:=HGr.c0;have e1:=HGr.c1;go_wp2_with (first|(at_builtin;(refine wpList_copyN wr rfl _ _ rfl Al cl l HLr.out (by omega) wr.heap.size rfl rfl rfl ?_;intro A2 c2 w2 hO2 hb2))|(at_builtin;(refine wpList_pushN w2 rfl _ _ rfl wr.heap.size w2.heap.size A2 c2 l hO2 hb2.size v rfl 1 w2.heap.size rfl rfl (by omega) ?_;intro g3 c3 w3 hO3 hb3;replace hb3:=hb2.trans hb3;clear hO2 hb2)))
    have HOx:Hid (ON wr.heap.size w3 (some ⟨g3,0,none⟩) c3 (l++ [v])):=⟨by rw[List.length_append];exact hO3⟩;have HR3:=hh_ (HR.keep hb3);have HB3:=hh_ (HBr.keep hb3);have HG3:=hh_ (HGr.keep hb3);have HO3:=hh_ (HOr.keep hb3);have hla:(l++ [v]).length=l.length+1:=by rw[List.length_append];rfl
    have Hla:=hh_ hla;clear hO3 hb3 HBr HGr HOr HLr HR e0 e1;have e0:=HG3.c0;have e1:=HG3.c1;go_wp2_with fail
    refine(l8Has_s Al l.length cl l v w3 w3.heap.size ⟨rfl,HO3.ln.rd⟩ (by omega)).mono ?_;rintro e w4 ⟨rfl,rfl⟩;by_cases hvl:v∈l
    ·have Hno:Hid (atG m (umB r) (fun _=>true) j l v=none):=atG_no (okG_in hvl);rw[decide_eq_true hvl];clear hvl;go_wp2;go_roundw;case rel=>
      refine⟨v+1,by omega,by go_num,fun u hu=> ?_,HR3⟩;by_cases huv:u<v
      ·exact hall.out u huv
      ·obtain rfl:u=v:=by omega
       exact Hno.out
     case measure=>simp[intOf]<;>omega
    ·have Hok:Hid (okG (umB r) l v=umB r (l++ [v])):=okG_out hvl;have Hlt2:Hid (∀u∈l++ [v],u<m):=by
      intro u hu;rw[List.mem_append,List.mem_singleton] at hu;rcases hu with hu|rfl
      ·exact Hlt.out u hu
      ·exact hvm
     rw[decide_eq_false hvl];clear hvl;have KU:=hh_ (l12Umbrella_v HG3.gv HOx.ln Hlt2.out (by rw[Hla.out];omega));rw[Hla.out] at KU;go_wp2_with fail
     refine(KU.out).mono ?_;rintro e w1 ⟨rfl,hb1⟩;clear e0 e1;replace HR3:=hh_ (HR3.keep hb1);replace HB3:=hh_ (HB3.keep hb1);replace HO3:=hh_ (HO3.keep hb1);replace HOx:=hh_ (HOx.keep hb1);replace HG3:=hh_ (HG3.keep hb1);clear hb1;have e0:=HG3.c0;have e1:=HG3.c1;cases hu:umB r (l++ [v])
     ·have Hno:Hid (atG m (umB r) (fun _=>true) j l v=none):=atG_no (Hok.trans hu);clear hu;go_wp2;go_roundw;case rel=>
       refine⟨v+1,by omega,by go_num,fun u hu=> ?_,HR3⟩;by_cases huv:u<v
       ·exact hall.out u huv
       ·obtain rfl:u=v:=by omega
        exact Hno.out
      case measure=>simp[intOf]<;>omega
     ·have Hyes:Hid (atG m (umB r) (fun _=>true) j l v=seaG m (umB r) (fun _=>true) j (l++ [v])):=atG_yes (Hok.trans hu);have KI:=hh_ (IH.out (l++ [v]) (some ⟨g3,0,none⟩) c3 w1 lo (by rw[Hla.out];have:=Hlm.out;omega) Hlt2.out HG3.gv (HOx.mono (by omega)) (by have:=HB3.below.size;omega));rw[Hla.out] at KI;obtain⟨so,hso⟩: ∃so,so=seaG m (umB r) (fun _=>true) j (l++ [v]):=⟨_,rfl⟩;have Hso:=hh_ hso;rw[<-hso] at KI Hyes;clear hu hso HO3;go_wp2_with fail
      refine(KI.out).mono ?_;rintro e w2 ⟨A5,c5,rfl,ho5,hb2⟩;clear e0 e1;replace HR3:=hh_ (HR3.keep hb2);replace HB3:=hh_ (HB3.keep hb2);replace HG3:=hh_ (HG3.keep hb2);clear hb2;have e0:=HG3.c0;have e1:=HG3.c1;have HO5:=hh_ ho5;clear ho5 KI;cases so with
      |none=>
       go_wp2;go_roundw;case rel=>
        refine⟨v+1,by omega,by go_num,fun u hu=> ?_,HR3⟩;by_cases huv:u<v
        ·exact hall.out u huv
        ·obtain rfl:u=v:=by omega
         exact Hyes.out
       case measure=>simp[intOf]<;>omega
      |some x=>
       have Hs:Hid (seaG m (umB r) (fun _=>true) (j+1) l=some x):=seaG_some hvm Hyes.out hall.out;go_wp2;go_ret2;exact⟨_,_,by rw[Hs.out];rfl,by rw[Hs.out];exact HO5.out,HB3.below⟩
   ·have Hn:Hid (seaG m (umB r) (fun _=>true) (j+1) l=none):=seaG_none fun u hu=>hall.out u (by omega)
    have i1:(m:Int)<=v:=by omega
    have HBr:=hh_ (HB.up HR.out);have HGr:=hh_ (HG.keep HR.below);have e0:=HGr.c0;have hzr:=HBr.below.size;have HON:Hid (ON wr.heap.size (wr.alloc (Obj.cells #[] 3)) (some ⟨wr.heap.size,0,none⟩) 0 []):=ON.nil wr;have HBz:=hh_ (HBr.alloc_ (Obj.cells #[] 3));go_wp2;go_ret2;exact⟨_,_,by rw[Hn.out];rfl,by rw[Hn.out];exact HON.mono (by omega),HBz.below⟩
section
variable {A:Option Addr} {m c:Nat} {r:Nat->Nat}
set_option maxRecDepth 100000 in
theorem UmbrellaOf_sv {w:World} (h:GV w A m c r):Calls Tryz.prog 109 #[.agg #[.int .i64 m,.slice A m c]] w (lsQ w (umO r m)):=by
 obtain⟨W,hW,HB,HG⟩:=gbW h;have HW:=hh_ hW;clear hW h;obtain⟨e0,e1⟩:=gx_ HG;have HZ:Hid (w.heap.size<=W.heap.size):=HB.below.size;go_enter Tryz.func109,Tryz.ntmps109;go_wp2_with fail
 rw[<-HW.out];refine(IsGraph_sv HG.gv).mono ?_;rintro e w1 ⟨rfl,hb1⟩;clear HW;clear e0 e1;obtain⟨HB,HG,e0,e1⟩:=kG_ HB HG hb1;clear hb1;have HZ1:Hid (w.heap.size<=w1.heap.size):=HB.below.size;have HON:Hid (ON w1.heap.size (w1.alloc (Obj.cells #[] 3)) (some ⟨w1.heap.size,0,none⟩) 0 []):=ON.nil w1;have HG2:Hid (GBox (w1.alloc (Obj.cells #[] 3)) w.heap.size A m c r):=HG.keep (br_.alloc nr_ _);have HB2:Hid (From w (w1.alloc (Obj.cells #[] 3))):=HB.alloc_ _;have KI:=hh_ (l12_s m [] (some ⟨w1.heap.size,0,none⟩) 0 (w1.alloc (Obj.cells #[] 3)) w.heap.size (by simp) (fun v hv=>by cases hv) HG2.gv (HON.mono HZ1.out) HB2.below.size);have HU:Hid (seaG m (umB r) (fun _=>true) m []=umO r m):=rfl;rw[HU.out] at KI;clear HG2 HU;go_wp2_with fail
 refine KI.mono ?_;rintro e w2 ⟨A5,c5,rfl,ho5,hb5⟩;have HO5:=hh_ ho5;have HB5:Hid (From w w2):=HB2.keep hb5;clear ho5 hb5 KI HON HB2 e0 e1;go_wp2;go_ret2;exact⟨_,_,rfl,HO5.out,HB5.below⟩
end
section
variable (sz:Int) (A:Option Addr) (m c:Nat) (x:Nat->Int) (w:World)
set_option maxRecDepth 100000 in
theorem UmbrellaOf_sno (h:GA w A m c x) (hm:m<=1048576) (hok:okB sz m x=false):
 Calls Tryz.prog 109 #[.agg #[.int .i64 sz,.slice A m c]] w (lsQ w none):=by
 obtain⟨W,hW,HB,HK,HC⟩:=gaW sz h;have HW:=hh_ hW;have Ho:=hh_ hok;clear hW h hok;go_enter Tryz.func109,Tryz.ntmps109;obtain⟨e0,e1⟩:=gc_ HC;go_wp2_with fail
 rw[<-HW.out];clear HW;refine(IsGraph_sany sz A m c x W W.heap.size HK.rd nr_ hm).mono ?_;rintro e w1 ⟨rfl,hb1⟩;rw[Ho.out];clear e0 e1;obtain⟨HB,HK,HC,e0,e1⟩:=kC_ HB HK HC hb1;clear hb1;have HZ1:Hid (w.heap.size<=w1.heap.size):=HB.below.size;have HON:Hid (ON w1.heap.size (w1.alloc (Obj.cells #[] 3)) (some ⟨w1.heap.size,0,none⟩) 0 []):=ON.nil w1;have HB2:Hid (From w (w1.alloc (Obj.cells #[] 3))):=HB.alloc_ _;go_wp2;go_ret2;exact⟨_,_,rfl,HON.mono HZ1.out,HB2.below⟩
set_option maxRecDepth 100000 in
theorem IsProper_s (h:GA w A m c x) (hm:m<=1048576):
 Calls Tryz.prog 50 #[.agg #[.int .i64 sz,.slice A m c]] w fun e w'=>e=.returned (.bool (ppB sz m x))/\Below w.heap.size w w':=by
 obtain⟨W,hW,HB,HK,HC⟩:=gaW sz h;have HW:=hh_ hW;clear hW h;go_enter Tryz.func50,Tryz.ntmps50;cases ho:okB sz m x
 ·have Hn:Hid (ppB sz m x=false):=ppB_no ho;have KF:=hh_ (UmbrellaOf_sno sz A m c x W HK hm ho);clear ho;obtain⟨e0,e1⟩:=gc_ HC;go_wp2_with fail
  rw[<-HW.out];refine(KF.out).mono ?_;rintro e w1 ⟨A',c',rfl,_,hb1⟩;clear HW;clear e0 e1;obtain⟨HB,HK,HC,e0,e1⟩:=kC_ HB HK HC hb1;clear hb1;clear KF;go_wp2;go_ret;exact⟨ret_bool Hn.symm,HB.below⟩
 obtain⟨_,es,_,_⟩:=okB_ok' ho;subst es;have Hn:Hid (ppB (m:Int) m x=(umO (rw_ x) m).isSome):=ppB_yes ho;have HG:Hid (GBox W w.heap.size A m c (rw_ x)):=⟨HK.gv ho,HC.c0,HC.c1,HC.lt⟩;have KF:=hh_ (UmbrellaOf_sv HG.gv);obtain⟨o,ho2⟩: ∃o,o=umO (rw_ x) m:=⟨_,rfl⟩;rw[<-ho2] at Hn KF;clear ho ho2 HC HK;cases o
 ·skip;obtain⟨e0,e1⟩:=gx_ HG;go_wp2_with fail
  rw[<-HW.out];refine(KF.out).mono ?_;rintro e w2 ⟨A',c',rfl,_,hb2⟩;clear HW;clear e0 e1;obtain⟨HB,HG,e0,e1⟩:=kG_ HB HG hb2;clear hb2;clear KF;go_wp2;go_ret;exact⟨ret_bool Hn.symm,HB.below⟩
 ·skip;obtain⟨e0,e1⟩:=gx_ HG;go_wp2_with fail
  rw[<-HW.out];refine(KF.out).mono ?_;rintro e w3 ⟨A',c',rfl,_,hb3⟩;clear HW;clear e0 e1;obtain⟨HB,HG,e0,e1⟩:=kG_ HB HG hb3;clear hb3;clear KF;go_wp2;go_ret;exact⟨ret_bool Hn.symm,HB.below⟩
end
set_option maxHeartbeats 6400000
theorem l1In_ts {n lo hi:Int} (w:World) (h1:lo<=n) (h2:n<=hi):Calls Tryz.prog 68 #[.int .i64 n,.int .i64 lo,.int .i64 hi] w fun e w'=>e=.returned (.bool true)/\Below w.heap.size w w':=
 (l1In_yes n lo hi w h1 h2).mono fun _ _ ⟨h1,h2⟩=>⟨h1,h2▸br_⟩
theorem sim_no' {r:Nat->Nat} {s v i k:Nat} {T:List Nat} (hT:T=listN (nN r s v)) (hi:i<T.length) (hk:k<i) (h1:nN r s (T.getD i 0)&&&nN r s (T.getD k 0)≠nN r s (T.getD i 0)) (h2:nN r s (T.getD i 0)&&&nN r s (T.getD k 0)≠nN r s (T.getD k 0)):simB r v s=false:=
 sim_no hT hi hk fun h=>by rcases h with h|h<;>contradiction
theorem nN_read {r:Nat->Nat} {m s u:Nat} (hV:VG m r) (hu:u<m) (hs:s<128): ∃y z nu:Nat,y=r u/\IntKind.i64.wrap ((2:Int)^u)=(z:Int)/\bits .or .i64 (y:Int) (z:Int)=((y|||z:Nat):Int)/\bits .and .i64 ((y|||z:Nat):Int) (s:Int)=nu/\nu=nN r s u/\nu<128:=by
 have hn7:=hV.n7;have hr:=hV.lt128 hu;have h2u:=two_pow_le (n:=u) (by omega);have hor:r u|||2^u<2^8:=Nat.or_lt_two_pow (by omega) (by omega);refine⟨r u,2^u,nN r s u,rfl,?_,i64_or_nat _ _ (by omega) (by omega),i64_and_nat _ _ (by omega) (by omega),rfl,?_⟩
 ·rw[pow_shl u (by omega)];simp
 ·exact Nat.lt_of_le_of_lt Nat.and_le_right hs
set_option maxRecDepth 100000 in
theorem IsSimple_sv {A:Option Addr} {m c:Nat} {r:Nat->Nat} {s v:Nat} {w:World} (h:GV w A m c r) (hs:s<2^m) (hv:v<m):
 Calls Tryz.prog 179 #[.agg #[.int .i64 m,.slice A m c],.int .i64 v,.int .i64 s] w fun e w'=>e=.returned (.bool (simB r v s))/\Below w.heap.size w w':=by
 have hn7:=h.vg.n7;have h128:=two_pow_le hn7;have HV:=hh_ h.vg;obtain⟨b0,o0,rfl⟩:=h.addr;obtain⟨W,hW⟩: ∃W,W=(w.alloc (Obj.cells #[.int .i64 m,.slice (some ⟨b0,o0,none⟩) m c] 26)):=⟨_,rfl⟩;have HB:Hid (From w W):=by rw[hW];exact From.alloc _ _
 have HG:Hid (GBox W w.heap.size (some ⟨b0,o0,none⟩) m c r):=by rw[hW];exact h.box
 have HW:=hh_ hW;clear hW h;obtain⟨e0,e1⟩:=gx_ HG;go_enter Tryz.func179,Tryz.ntmps179;go_wp2_with fail
 rw[<-HW.out];refine(IsSet_sv HG.gv hs).mono ?_;rintro e w1 ⟨rfl,hb1⟩;clear HW;clear e0 e1;obtain⟨HB,HG,e0,e1⟩:=kG_ HB HG hb1;clear hb1;have s1:wrap64 ((m:Int)-1)=(m:Int)-1:=Go.IntWalk.wrap64_in _ (by omega);go_wp2_with fail
 refine(l1In_ts (n:=(v:Int)) (lo:=0) (hi:=(m:Int)-1) w1 (by omega) (by omega)).mono ?_;rintro e w2 ⟨rfl,hb2⟩;clear e0 e1;obtain⟨HB,HG,e0,e1⟩:=kG_ HB HG hb2;clear hb2;have E0:(bits .and .i64 ((s:Int)/2^v) 1==0)= !s.testBit v:=by
  have:=and_one_i64' (s:Int) v (by omega) (by omega);simpa using this
 cases hb:s.testBit v
 ·have Hn:Hid (simB r v s=false):=sim_out hb;rw[hb] at E0;clear hb;go_wp2;go_ret;exact⟨ret_bool Hn.symm,HB.below⟩
 rw[hb] at E0;have Hb:=hh_ hb;clear hb;have q0:=HG.gv.row hv;obtain⟨y,z,t,hy,p1,E1,E2,ht,ht7⟩:=nN_read (s:=s) HV hv (by omega);rw[<-hy] at q0;have i1:(v:Int)<m:=by omega
 have KL:Hid (∀z:World,Below w2.heap.size w2 z->Calls Tryz.prog 177 #[.int .i64 (t:Int)] z fun e w'=> ∃A c,e=.returned (.slice A (listN t).length c)/\ON w2.heap.size w' A c (listN t)/\Below z.heap.size z w'):=fun z hz=>
  (ListOf_sv t ht7 z).mono fun _ _ ⟨A,c,h1,h2,h3⟩=>⟨A,c,h1,h2.mono hz.size,h3⟩
 have hL7:(listN t).length<=7:=listN_len t;have htm:t<2^m:=by rw[ht];exact nN_lt hs
 have HTm:Hid (∀j,j<(listN t).length->(listN t).getD j 0<m):=fun j hj=>listN_lt htm hj
 obtain⟨T,hT⟩: ∃T,T=listN t:=⟨_,rfl⟩;rw[<-hT] at KL hL7 HTm;have HT:Hid (T=listN (nN r s v)):=by rw[<-ht];exact hT
 clear ht hT htm s1 hy;go_wp2;obtain⟨HSC,HZ0,HS1⟩:=hsc3 e0 e1 q0;have KR1:Hid (∀z:World,Below w2.heap.size w2 z->_):=fun z hz=>KL.out _ hz
 go_region_held3 (fun z=>Below w2.heap.size w2 z/\z.cell? ⟨w.heap.size,0,none⟩=some (.int .i64 m)/\z.cell? ⟨w.heap.size,1,none⟩=some (.slice (some ⟨b0,o0,none⟩) m c)/\z.cell? ⟨b0,o0+v,none⟩=some (.int .i64 (y:Int)))
  (first|exact HS1.out|assumption|exact HSC.out _ hz3|fail)
  (first|(go_at_call 177;((with_reducible refine(KR1.out _ HZ0.out).mono ?_);rintro e w3 ⟨AL,cL,rfl,hOL,hb3⟩;have hz3:=bl_trans HZ0.out hb3)))
 clear e0 e1;replace HB:=hh_ (HB.keep hz3);replace HG:=hh_ (HG.keep hz3);clear hb3 hz3 HSC HZ0 HS1 KR1;obtain⟨e0,e1⟩:=gx_ HG;have HOL:Hid (LN w3 AL cL T):=hOL.ln;have HR0:Hid (From w3 w3):=From.refl w3;clear hOL KL p1 E0 E1 E2 q0 e0 e1;go_wp2;go_loopw [8] (fun iv wr=> ∃i:Nat,i<=T.length/\iv=.int .i64 i/\Hid (Sm1 r s T i)/\Hid (From w3 wr)) (fun iv _=>T.length-(intOf iv).toNat);case atStart=>exact⟨0,Nat.zero_le _,rfl,Sm1.zero,HR0⟩
 case round=>
  clear HR0;obtain⟨i,hi,rfl,H1,HR⟩:=hrel;by_cases hiT:i<T.length
  ·have i1:(i:Int)<T.length:=by omega
   go_wp2;go_loopw [9] (fun kv wr=> ∃k:Nat,k<=i/\kv=.int .i64 k/\Hid (∀j,j<k->Cm (nN r s (T.getD i 0)) (nN r s (T.getD j 0)))/\Hid (From w3 wr)) (fun kv _=>i-(intOf kv).toNat);case atStart=>exact⟨0,Nat.zero_le _,rfl,(fun j hj=>absurd hj (by omega)),HR⟩
   case round=>
    clear HR;obtain⟨k,hk,rfl,H2,HR⟩:=hrel;by_cases hki:k<i
    ·have i2:(k:Int)<i:=by omega
     have i3:(k:Int)<T.length:=by omega
     have HBr:=hh_ (HB.up HR.out);have HLr:=hh_ (HOL.keep HR.below);have HGr:=hh_ (HG.keep HR.below);have e0:=HGr.c0;have e1:=HGr.c1;obtain⟨bl,ol,rfl⟩:=HLr.addr (by omega);have p0:=HLr.cell hiT;have p1:=HLr.cell (show k<T.length by omega);have hu:=HTm.out i hiT;have hu2:=HTm.out k (by omega);obtain⟨u,hu'⟩: ∃u,u=T.getD i 0:=⟨_,rfl⟩;obtain⟨u2,hu2'⟩: ∃u2,u2=T.getD k 0:=⟨_,rfl⟩;rw[<-hu'] at p0 hu;rw[<-hu2'] at p1 hu2;have q0:=HGr.gv.row hu;have q1:=HGr.gv.row hu2;obtain⟨y1,z1,a,hy1,P1,E1,E2,ha,ha7⟩:=nN_read (s:=s) HV hu (by omega);obtain⟨y2,z2,b,hy2,P2,E3,E4,hb,hb7⟩:=nN_read (s:=s) HV hu2 (by omega);rw[<-hy1] at q0;rw[<-hy2] at q1;have i4:(u:Int)<m:=by omega
     have i5:(u2:Int)<m:=by omega
     have E5:=i64_and_nat a b (by omega) (by omega);have Hp:Hid ((a&&&b=a\/a&&&b=b)->Cm (nN r s (T.getD i 0)) (nN r s (T.getD k 0))):=fun h=>by rw[<-hu',<-hu2',<-ha,<-hb];exact h
     have Hq:Hid (a&&&b≠a->a&&&b≠b->simB r v s=false):=fun h1 h2=>sim_no' HT.out hiT hki (by rw[<-hu',<-hu2',<-ha,<-hb];exact h1) (by rw[<-hu',<-hu2',<-ha,<-hb];exact h2)
     obtain⟨ab,hab⟩: ∃ab,ab=a&&&b:=⟨_,rfl⟩;rw[<-hab] at E5 Hp Hq;clear hu' hu2' hy1 hy2 ha hb hab;by_cases h1:ab=a
     ·have H2':Hid (∀j,j<k+1->Cm (nN r s (T.getD i 0)) (nN r s (T.getD j 0))):=fun j hj=>by
       by_cases e:j<k
       ·exact H2.out j e
       ·obtain rfl:j=k:=by omega
        exact Hp.out (.inl h1)
      have d1:((ab:Int) !=(a:Int))=false:=by simp;omega
      clear h1 hu hu2;go_wp2;go_quiet (fail)
      go_wp2;go_quiet (fail)
      go_wp2;go_roundw;case rel=>exact⟨k+1,by omega,by go_num,H2',HR.drewN _⟩
      case measure=>simp[intOf]<;>omega
     ·have d1:((ab:Int) !=(a:Int))=true:=by simp;omega
      by_cases h2:ab=b
      ·have H2':Hid (∀j,j<k+1->Cm (nN r s (T.getD i 0)) (nN r s (T.getD j 0))):=fun j hj=>by
        by_cases e:j<k
        ·exact H2.out j e
        ·obtain rfl:j=k:=by omega
         exact Hp.out (.inr h2)
       have d2:((ab:Int) !=(b:Int))=false:=by simp;omega
       clear h1 h2 hu hu2;go_wp2;go_quiet (fail)
       go_wp2;go_quiet (fail)
       go_wp2;go_roundw;case rel=>exact⟨k+1,by omega,by go_num,H2',HR.drewN _⟩
       case measure=>simp[intOf]<;>omega
      ·have d2:((ab:Int) !=(b:Int))=true:=by simp;omega
       have Hn:=hh_ (Hq.out h1 h2);clear h1 h2 hu hu2;go_wp2;go_quiet (fail)
       go_wp2;go_quiet (fail)
       go_wp2;go_ret;exact⟨ret_bool Hn.symm,(HBr.drewN _).below⟩
    ·have H1':Hid (Sm1 r s T (i+1)):=H1.step fun j hj=>H2.out j (by omega)
     have i2:(i:Int)<=k:=by omega
     go_wp2;go_roundw;case rel=>exact⟨i+1,by omega,by go_num,H1',HR⟩
     case measure=>simp[intOf]<;>omega
  ·have Hy:Hid (simB r v s=true):=sim_yes Hb.out (by rw[<-HT.out];exact fun i' hi'=>H1.out i' (by omega));have HBr:=hh_ (HB.up HR.out);have i1:(T.length:Int)<=(i:Int):=by omega
   go_wp2;go_ret;exact⟨ret_bool Hy.symm,HBr.below⟩
set_option maxHeartbeats 1600000
set_option maxRecDepth 100000 in
theorem EliminationOf_sl (sz:Int) (A:Option Addr) (m c:Nat) (x:Nat->Int) (w:World) (B:Nat) (h:Rd w B A m c x) (hB:B<=w.heap.size) (hm:m<=1048576):
 Calls Tryz.prog 107 #[.agg #[.int .i64 sz,.slice A m c]] w (lsQ w (orG firstS sz m x)):=by
 obtain⟨W,hW⟩: ∃W,W=((w.alloc (Obj.cells #[.int .i64 sz,.slice A m c] 26)).alloc (Obj.cells #[] 3)):=⟨_,rfl⟩;have HB:Hid (Below w.heap.size w W):=by rw[hW];exact(br_.alloc nr_ _).alloc (by simp) _
 have HZ:Hid (w.heap.size+2=W.heap.size):=by rw[hW];simp[Hid]
 have a0:w.heap.size<W.heap.size:=by have:=HZ.out;omega
 have e0:W.cell? ⟨w.heap.size,0,none⟩=some (.int .i64 sz):=by rw[hW];simp[go_sem]
 have e1:W.cell? ⟨w.heap.size,1,none⟩=some (.slice A m c):=by rw[hW];simp[go_sem]
 have HG:Hid (W.heap[w.heap.size+1]? =some (.cells #[] 3 (0,0))):=by
  rw[hW];have:=heap_alloc_new (w.alloc (Obj.cells #[.int .i64 sz,.slice A m c] 26)) (Obj.cells #[] 3);simpa [Hid] using this
 have HK:=hh_ (h.keep (HB.mono hB) nr_);have HW:=hh_ hW;clear hW h;go_enter Tryz.func107,Tryz.ntmps107;go_wp2_with fail
 rw[<-HW.out];refine(IsGraph_sany sz A m c x W B HK (by omega) hm).mono ?_;rintro e w1 ⟨rfl,hb1⟩;have f0:=up hb1 e0 a0;have f1:=up hb1 e1 a0;have z1:=hb1.size;have HB1:Hid (Below w.heap.size w w1):=HB.trans (hb1.mono (by omega));have HK1:Hid (Rd w1 B A m c x):=HK.keep (hb1.mono (by omega)) nr_;have HG1:Hid (w1.heap[w.heap.size+1]? =some (.cells #[] 3 (0,0))):=(hb1.block _ (by have:=HZ.out;omega)).trans HG.out;clear hb1 e0 e1 HW HK HB HG;cases ho:okB sz m x
 ·have hno:Hid (orG firstS sz m x=none):=orG_no ho;have HON:Hid (ON w.heap.size w1 (some ⟨w.heap.size+1,0,none⟩) 0 []):=⟨.inr ⟨w.heap.size+1,#[],rfl,by omega,by have:=HZ.out;omega,HG1,nr_,by unfold maxLen;omega,rfl,fun j hj=>absurd hj (by simp)⟩⟩;clear ho;go_wp2;go_ret2;rw[hno.out];exact⟨_,_,rfl,HON.out,HB1⟩
 ·have hok2:OkG sz m x:=by
   refine Classical.byContradiction fun h2=> ?_
   rw[okB_no h2] at ho;cases ho
  obtain⟨_,es,vg0,_⟩:=hok2;subst es;have hn1:=vg0.n1;have hn7:=vg0.n7;have h128:=two_pow_le hn7;have hpos:=Nat.two_pow_pos m;have Hok:=hh_ ho;have p1:=pow_shl m hn7;have p2:=two_pow_int m hn7;have hall:(2:Int)^m-1=((2^m-1:Nat):Int):=by rw[Int.ofNat_sub hpos];simp
  have Hall:=hh_ hall;have b1:w.heap.size<w1.heap.size:=by omega
  have HO:Hid (Own w1 (w.heap.size+1) w1.heap.size 3 1 (some ⟨w.heap.size+1,0,none⟩) 0 0 (ni [])):=
   .inr ⟨w.heap.size+1,#[],rfl,nr_,by have:=HZ.out;omega,HG1,nr_,by unfold maxLen;omega,rfl,fun j hj=>absurd hj (by omega)⟩
  clear ho vg0 hall HG1;go_wp2;rw[Hall.out];clear p1 p2;go_loopw [4,5] (fun l i wr=> ∃(left:Nat) (A':Option Addr) (c':Nat) (T:List Nat),l=.slice A' T.length c'/\i=.int .i64 left/\T.length+left+1<=2^m/\Hid (Own wr (w.heap.size+1) wr.heap.size 3 1 A' T.length c' (ni T))/\Hid (redL (firstS (rw_ x)) (2^m-1)=(redL (firstS (rw_ x)) left).map (T++ ·))/\Hid (Below (w.heap.size+1) w1 wr)) (fun _ i _=>(intOf i).toNat);case atStart=>exact⟨2^m-1,_,0,[],rfl,rfl,by simp;omega,HO,redL_start,br_⟩
  case round=>
   obtain⟨left,A',c',T,rfl,rfl,hkl,HY,HE,hbr⟩:=hrel;have zr:=hbr.size;have j0:=up hbr.out f0 (by omega);have j1:=up hbr.out f1 (by omega);by_cases hl0:left=0
   ·have hyes:Hid (orG firstS (m:Int) m x=some T):=orG_eq Hok.out (redL_end (by rw[<-hl0];exact HE.out));have HON:Hid (ON w.heap.size wr A' c' T):=⟨HY.mono (by omega) nr_⟩;have hle:(left:Int)<=0:=by omega
    clear hl0;go_wp2;go_ret2;rw[hyes.out];exact lsQ.yes HON.out (HB1.trans (hbr.mono (by omega)))
   ·have hgt:(0:Int)<left:=by omega
    have hgd:decide (0<left)=true:=by simp;omega
    have Hl0:=hh_ hl0;clear hl0;go_wp2;obtain⟨wo,rfl⟩: ∃wo,wo=wr:=⟨_,rfl⟩;go_loopw [6,7] (fun b i wr=> ∃(t:Nat),t<=m/\i=.int .i64 ((t:Int)-1)/\((b=.int .i64 (-1)/\Hid (∀u,t<=u->left.testBit u=true->cliq (rw_ x) (rw_ x u&&&left)=false))\/ ∃v:Nat,b=.int .i64 v/\v<m/\Hid (t<=v/\left.testBit v=true/\cliq (rw_ x) (rw_ x v&&&left)=true/\ ∀u,t<=u->u<v->left.testBit u=true->cliq (rw_ x) (rw_ x u&&&left)=false))/\Hid (Below wo.heap.size wo wr)) (fun _ i _=>(intOf i+1).toNat);case atStart=>exact⟨m,nr_,rfl,.inl ⟨rfl,fun u hu hb=>by have:=bit_lt (by omega:left<2^m) hb;omega⟩,br_⟩
    case round=>
     obtain⟨t,htm,rfl,hbest,hbw⟩:=hrel;have zw:=hbw.size;have i0:=up hbw.out j0 (by omega);have i1:=up hbw.out j1 (by omega);by_cases ht0:t=0
     ·have hneg:((t:Int)-1)<0:=by omega
      have HYw:Hid (Own wr (w.heap.size+1) wr.heap.size 3 1 A' T.length c' (ni T)):=(HY.keepB hbw.out nr_).mono nr_ zw;have HBw:Hid (Below (w.heap.size+1) w1 wr):=hbr.trans (hbw.mono (by omega));rcases hbest with ⟨rfl,hno⟩|⟨v,rfl,hvm,hyes⟩
      ·have hf:firstS (rw_ x) left=none:=firstS_no fun u _ hb=>hno.out u (by omega) hb
       have hno2:Hid (orG firstS (m:Int) m x=none):=orG_eq Hok.out (redL_stuck Hl0.out hf HE.out);have HON:Hid (ON w.heap.size (wr.alloc (Obj.cells #[] 3)) (some ⟨wr.heap.size,0,none⟩) 0 []):=(ON.nil wr).mono (by omega);clear hno hf HE ht0;go_wp2;go_ret2;rw[hno2.out];exact⟨_,_,rfl,HON.out,HB1.trans ((HBw.mono (by omega)).alloc (by omega) _)⟩
      ·obtain⟨_,hbit,hcl,hmin⟩:=hyes.out;have hf:firstS (rw_ x) left=some v:=firstS_least (by omega) hbit hcl (fun u hu hb=>hmin u (by omega) hu hb);have HE2:Hid (redL (firstS (rw_ x)) (2^m-1)=(redL (firstS (rw_ x)) (left^^^2^v)).map ((T++ [v])++ ·)):=redL_step hbit hf HE.out;have hlt:=xor_bit_lt hbit;have hxs:=(xor_bit hbit).2;have hE3:Hid ((left:Int)-2^v=((left^^^2^v:Nat):Int)):=by
        show _=_;have p3:((2^v:Nat):Int)=2^v:=by simp
        rw[<-p3];omega
       have p1:=pow_shl v (by omega);have p2:=two_pow_int v (by omega);have hge0:(0:Int)<=v:=by omega
       clear hyes hbit hcl hmin hf HE hxs ht0;go_wp2_with (first|(at_builtin;(refine wpList_pushN wr rfl _ _ rfl (w.heap.size+1) wr.heap.size A' c' T HYw.out (by omega) v rfl 1 wr.heap.size rfl rfl (by omega) ?_;intro g cap w3 hO2 hb2)))
       have H4:=hh_ hO2;have H5:Hid (Below (w.heap.size+1) w1 w3):=HBw.trans hb2;clear hO2 hb2;go_roundw;case rel=>exact⟨left^^^2^v,_,_,T++ [v],by rw[List.length_append];rfl,congrArg (Value.int .i64) hE3.out,by rw[List.length_append];simp;omega,by rw[List.length_append];exact H4.out,HE2,H5⟩
       case measure=>simp[intOf]<;>omega
     ·obtain⟨v,rfl⟩: ∃v,t=v+1:=⟨t-1,by omega⟩;have ev:(((v+1:Nat):Int)-1)=(v:Int):=by omega
      rw[ev];have HBst:=hh_ hbest;have hge0:(0:Int)<=v:=by omega
      have E1:=and_one_i64 (left:Int) v (by omega) (by omega);rw[Int.toNat_natCast] at E1;have HK2:Hid (Rd wr B A m c x):=HK1.keep ((hbr.trans (hbw.mono (by omega))).mono (by omega)) nr_;have hleft:left<2^m:=by omega
      have hBw:B<=wr.heap.size:=by omega
      clear ev ht0 hbest;cases hbit:left.testBit v
      ·rw[hbit] at E1;have Hb:=hh_ hbit;clear hbit;go_wp2;go_roundw;case rel=>
        refine⟨v,by omega,rfl,?_,hbw⟩;rcases HBst.out with ⟨rfl,hno⟩|⟨bv,rfl,hbm,hyes⟩
        ·refine .inl ⟨rfl,fun u hu hb=> ?_⟩;by_cases huv:u=v
         ·subst huv;rw[Hb.out] at hb;cases hb
         ·exact hno.out u (by omega) hb
        ·refine .inr ⟨bv,rfl,hbm,by have:=hyes.out.1;omega,hyes.out.2.1,hyes.out.2.2.1,fun u hu hub hb=> ?_⟩;by_cases huv:u=v
         ·subst huv;rw[Hb.out] at hb;cases hb
         ·exact hyes.out.2.2.2 u (by omega) hub hb
       case measure=>simp[intOf]<;>omega
      ·rw[hbit] at E1;have Hb:=hh_ hbit;clear hbit;go_wp2_with fail
       refine(l6Simplicial_any m A c x v left wr B HK2 hBw Hok.out hleft (by omega)).mono ?_;rintro e w3 ⟨rfl,hb3⟩;have HB3:Hid (Below wo.heap.size wo w3):=hbw.trans (hb3.mono zw);clear hb3 i0 i1 E1 HK2;cases hcl:cliq (rw_ x) (rw_ x v&&&left)
       ·have Hc:=hh_ hcl;clear hcl;go_wp2;refine⟨⟨v,by omega,rfl,?_,HB3⟩,by simp[intOf]<;>omega⟩;rcases HBst.out with ⟨rfl,hno⟩|⟨bv,rfl,hbm,hyes⟩
        ·refine .inl ⟨rfl,fun u hu hb=> ?_⟩;by_cases huv:u=v
         ·subst huv;exact Hc.out
         ·exact hno.out u (by omega) hb
        ·refine .inr ⟨bv,rfl,hbm,by have:=hyes.out.1;omega,hyes.out.2.1,hyes.out.2.2.1,fun u hu hub hb=> ?_⟩;by_cases huv:u=v
         ·subst huv;exact Hc.out
         ·exact hyes.out.2.2.2 u (by omega) hub hb
       ·have Hc:=hh_ hcl;clear hcl;go_wp2;refine⟨⟨v,by omega,rfl,?_,HB3⟩,by simp[intOf]<;>omega⟩;exact .inr ⟨v,rfl,by omega,nr_,Hb.out,Hc.out,fun u hu hub _=>by omega⟩
end Go.Proofs.YtfabbohijhjpcaaGreatDoor
