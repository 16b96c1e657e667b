/- Lemmas. -/
import Derived.Test.YtfabbohijhjpcaaGreatDoorRbGB
namespace Go.Proofs.YtfabbohijhjpcaaGreatDoor
open Go.RowKit
set_option maxHeartbeats 1600000
theorem bq1 {a b:Bool} (h:(a==b)=false):a= !b:=by cases a<;>cases b<;>first|rfl|cases h
theorem bq2 {a b:Bool} (h:(a==b)=true):a=b:=by cases a<;>cases b<;>first|rfl|cases h
set_option maxRecDepth 100000 in
theorem EditsBetween_s (s1:Int) (A1:Option Addr) (m1 c1:Nat) (x1:Nat->Int) (s2:Int) (A2:Option Addr) (m2 c2:Nat) (x2:Nat->Int) (w:World) (B:Nat) (h1:Rd w B A1 m1 c1 x1) (h2:Rd w B A2 m2 c2 x2) (hB:B<=w.heap.size) (hm1:m1<=1048576) (hm2:m2<=1048576):
 Calls Tryz.prog 13 #[.agg #[.int .i64 s1,.slice A1 m1 c1],.agg #[.int .i64 s2,.slice A2 m2 c2]] w fun e w'=> ∃A' c',e=.returned (.tuple #[.slice A' (ebL s1 m1 x1 s2 m2 x2).length c',.bool (ebB s1 m1 x1 s2 m2 x2)])/\Own w' w.heap.size w'.heap.size 48 3 A' (ebL s1 m1 x1 s2 m2 x2).length c' (edT (ebL s1 m1 x1 s2 m2 x2))/\Below w.heap.size w w':=by
 obtain⟨W,hW⟩: ∃W,W=((w.alloc (Obj.cells #[.int .i64 s1,.slice A1 m1 c1] 26)).alloc (Obj.cells #[.int .i64 s2,.slice A2 m2 c2] 26)).alloc (Obj.cells #[] 48):=⟨_,rfl⟩;have HB:Hid (Below w.heap.size w W):=by rw[hW];exact((br_.alloc nr_ _).alloc (by simp) _).alloc (by simp<;>omega) _
 have hsz:w.heap.size+3=W.heap.size:=by rw[hW];simp
 have hs0:w.heap.size<W.heap.size:=by omega
 have hs1:w.heap.size+1<W.heap.size:=by omega
 have e0:W.cell? ⟨w.heap.size,0,none⟩=some (.int .i64 s1):=by rw[hW];simp[go_sem]
 have e1:W.cell? ⟨w.heap.size,1,none⟩=some (.slice A1 m1 c1):=by rw[hW];simp[go_sem]
 have e2:W.cell? ⟨w.heap.size+1,0,none⟩=some (.int .i64 s2):=by rw[hW];simp[go_sem]
 have e3:W.cell? ⟨w.heap.size+1,1,none⟩=some (.slice A2 m2 c2):=by rw[hW];simp[go_sem]
 have HG:Hid (Own W (w.heap.size+2) W.heap.size 48 3 (some ⟨w.heap.size+2,0,none⟩) 0 0 (edT [])):=by
  refine .inr ⟨w.heap.size+2,#[],rfl,nr_,by omega,?_,nr_,by unfold maxLen;omega,rfl,fun j hj=>absurd hj (by simp)⟩;rw[hW];have:=heap_alloc_new ((w.alloc (Obj.cells #[.int .i64 s1,.slice A1 m1 c1] 26)).alloc (Obj.cells #[.int .i64 s2,.slice A2 m2 c2] 26)) (Obj.cells #[] 48);simpa using this
 have k1:=h1.keep (HB.mono hB) nr_;have k2:=h2.keep (HB.mono hB) nr_;have HW:=hh_ hW;clear hW h1 h2;go_enter Tryz.func13,Tryz.ntmps13;go_wp2_with fail
 rw[<-HW.out];refine(IsGraph_sany s1 A1 m1 c1 x1 W B k1 (by omega) hm1).mono ?_;rintro e w1 ⟨rfl,hb1⟩;have f0:=up hb1 e0 hs0;have f1:=up hb1 e1 hs0;have f2:=up hb1 e2 hs1;have f3:=up hb1 e3 hs1;have z1:=hb1.size;have HG1:=hh_ ((HG.keepB hb1 nr_).mono nr_ z1);have HB1:=hh_ (HB.trans (hb1.mono (by omega)));have k1':=k1.keep (hb1.mono (by omega)) nr_;have k2':=k2.keep (hb1.mono (by omega)) nr_;have zz0:w.heap.size<w1.heap.size:=by omega
 have zz1:w.heap.size+1<w1.heap.size:=by omega
 clear HW HB HG e0 e1 e2 e3 hb1 k1 k2;cases ho1:okB s1 m1 x1
 ·have hno:Hid (ebB s1 m1 x1 s2 m2 x2=false):=by show ebB _ _ _ _ _ _=_;unfold ebB;rw[ho1];rfl
  have hL:Hid (ebL s1 m1 x1 s2 m2 x2= []):=by show ebL _ _ _ _ _ _=_;unfold ebL;rw[hno.out];rfl
  clear ho1;go_wp2;go_ret2;exact⟨_,0,by rw[hno.out,hL.out];rfl,by rw[hL.out];exact HG1.mono (by omega) nr_,HB1⟩
 ·have Ho1:=hh_ ho1;clear ho1;go_wp2_with fail
  refine(IsGraph_sany s2 A2 m2 c2 x2 w1 B k2' (by omega) hm2).mono ?_;rintro e w2 ⟨rfl,hb2⟩;have g0:=up hb2 f0 zz0;have g1:=up hb2 f1 zz0;have g2:=up hb2 f2 zz1;have g3:=up hb2 f3 zz1;have z2:=hb2.size;have HG2:=hh_ ((HG1.keepB hb2 nr_).mono nr_ z2);have l1:=k1'.keep (hb2.mono (by omega)) nr_;have l2:=k2'.keep (hb2.mono (by omega)) nr_;have HB2:=hh_ (HB1.trans (hb2.mono (by omega)));have yy0:w.heap.size<w2.heap.size:=by omega
  have yy1:w.heap.size+1<w2.heap.size:=by omega
  clear HB1 HG1 f0 f1 f2 f3 k1' k2' hb2 zz0 zz1;cases ho2:okB s2 m2 x2
  ·have hno:Hid (ebB s1 m1 x1 s2 m2 x2=false):=by show ebB _ _ _ _ _ _=_;unfold ebB;rw[Ho1.out,ho2];rfl
   have hL:Hid (ebL s1 m1 x1 s2 m2 x2= []):=by show ebL _ _ _ _ _ _=_;unfold ebL;rw[hno.out];rfl
   clear ho2;go_wp2;go_ret2;exact⟨_,0,by rw[hno.out,hL.out];rfl,by rw[hL.out];exact HG2.mono (by omega) nr_,HB2⟩
  ·have Ho2:=hh_ ho2;clear ho2;by_cases hs:s1=s2
   ·have hyes:Hid (ebB s1 m1 x1 s2 m2 x2=true):=by show ebB _ _ _ _ _ _=_;unfold ebB;rw[Ho1.out,Ho2.out,decide_eq_true hs];rfl
    have hL:Hid (ebL s1 m1 x1 s2 m2 x2=eR false (pr m1) x1 x2++eR true (pr m1) x2 x1):=by show ebL _ _ _ _ _ _=_;unfold ebL;rw[hyes.out];rfl
    obtain⟨r1,es1,vg1,hx1⟩:=okB_ok Ho1.out;obtain⟨r2,es2,vg2,hx2⟩:=okB_ok Ho2.out;have em:m2=m1:=by omega
    subst em;have hn1:=vg1.n1;have hn7:=vg1.n7;obtain⟨b1,o1,rfl,lb1,hc1⟩:=l1.pos (by omega);obtain⟨b2,o2,rfl,lb2,hc2⟩:=l2.pos (by omega);have HX1:=hh_ hx1;have HX2:=hh_ hx2;have HV1:=hh_ vg1;have HV2:=hh_ vg2;have HC1:=hh_ hc1;have HC2:=hh_ hc2;subst hs;subst es1;clear es2 hx1 hx2 vg1 vg2 hc1 hc2 l1 l2 Ho1 Ho2;go_wp2;go_loopw [6,7] (fun l i wr=>(∃(A5:Option Addr) (c5:Nat),i=.int .i64 0/\l=.slice A5 (([]:List (Bool×Int×Int))).length c5/\Hid (Own wr (w.heap.size+2) wr.heap.size 48 3 A5 (([]:List (Bool×Int×Int))).length c5 (edT (([]:List (Bool×Int×Int)))))/\Hid (Below (w.heap.size+2) w2 wr))\/(∃(A5:Option Addr) (c5:Nat),i=.int .i64 1/\l=.slice A5 (eR false (pr m2) x1 x2).length c5/\Hid (Own wr (w.heap.size+2) wr.heap.size 48 3 A5 (eR false (pr m2) x1 x2).length c5 (edT (eR false (pr m2) x1 x2)))/\Hid (Below (w.heap.size+2) w2 wr))\/(∃(A5:Option Addr) (c5:Nat),i=.int .i64 2/\l=.slice A5 (eR false (pr m2) x1 x2++eR true (pr m2) x2 x1).length c5/\Hid (Own wr (w.heap.size+2) wr.heap.size 48 3 A5 (eR false (pr m2) x1 x2++eR true (pr m2) x2 x1).length c5 (edT (eR false (pr m2) x1 x2++eR true (pr m2) x2 x1)))/\Hid (Below (w.heap.size+2) w2 wr))) (fun _ i _=>2-(intOf i).toNat)
    case atStart=>exact .inl ⟨_,0,rfl,rfl,HG2,br_⟩
    case round=>
     rcases hrel with ⟨A5,c5,rfl,rfl,hG,hbr⟩|⟨A5,c5,rfl,rfl,hG,hbr⟩|⟨A5,c5,rfl,rfl,hG,hbr⟩
     ·
       go_wp2;go_loopw [6,8] (fun l i wr=> ∃(v:Nat) (A5:Option Addr) (c5:Nat),v<=m2/\i=.int .i64 v/\l=.slice A5 (eR false (prTo m2 v (v+1)) x1 x2).length c5/\Hid (Own wr (w.heap.size+2) wr.heap.size 48 3 A5 (eR false (prTo m2 v (v+1)) x1 x2).length c5 (edT (eR false (prTo m2 v (v+1)) x1 x2)))/\Hid (Below (w.heap.size+2) w2 wr)) (fun _ i _=>m2-(intOf i).toNat);case atStart=>exact⟨0,A5,c5,Nat.zero_le _,rfl,by rw[prTo_zero];simp[eR],by rw[prTo_zero];simpa [eR] using hG,hbr⟩
       case round=>
        rename_i wy _ _;obtain⟨v,A5,c5,hv,rfl,rfl,hG,hbr⟩:=hrel;have p0:=up hbr.out g0 (by omega);have p1:=up hbr.out g1 (by omega);have zy:=hbr.size;by_cases hlt:v<m2
        ·have y0:0<=x1 v:=by have:=HX1.out v (by omega);omega
         have y1:x1 v<16777216:=by have:=HX1.out v (by omega);have:=HV1.lt128 (v:=v) (by omega);omega
         have y2:0<=x2 v:=by have:=HX2.out v (by omega);omega
         have y3:x2 v<16777216:=by have:=HX2.out v (by omega);have:=HV2.lt128 (v:=v) (by omega);omega
         have i2:(v:Int)<m2:=by omega
         go_wp2;go_loopw [6,9] (fun l i wr=> ∃(u:Nat) (A5:Option Addr) (c5:Nat),v+1<=u/\u<=m2/\i=.int .i64 u/\l=.slice A5 (eR false (prTo m2 v u) x1 x2).length c5/\Hid (Own wr (w.heap.size+2) wr.heap.size 48 3 A5 (eR false (prTo m2 v u) x1 x2).length c5 (edT (eR false (prTo m2 v u) x1 x2)))/\Hid (Below (w.heap.size+2) w2 wr)) (fun _ i _=>m2-(intOf i).toNat);case atStart=>exact⟨v+1,A5,c5,nr_,by omega,by go_num,rfl,hG,hbr⟩
         case round=>
          rename_i wz _ _;obtain⟨u,A5,c5,hu1,hu2,rfl,rfl,hG,hbr⟩:=hrel;have p0:=up hbr.out g0 (by omega);have p1:=up hbr.out g1 (by omega);have p2:=up hbr.out g2 (by omega);have p3:=up hbr.out g3 (by omega);have a1:=(hbr.cell (p:=⟨b1,o1+v,none⟩) (by show b1<_;omega)).trans (HC1 v hlt);have a2:=(hbr.cell (p:=⟨b2,o2+v,none⟩) (by show b2<_;omega)).trans (HC2 v hlt);have zz:=hbr.size;have hv':v<m2:=hlt;by_cases hlu:u<m2
          ·have i3:(u:Int)<m2:=by omega
           have hlen:(eR false (prTo m2 v u) x1 x2).length<=42:=by
            have q1:=prTo_len hn7 hlt hu1 hu2;have q2:=length_pr_le hn7;have:=eR_len (b:=false) (P:=pr m2) (x1:=x1) (x2:=x2);have:=eR_len (b:=false) (P:=prTo m2 v u) (x1:=x1) (x2:=x2);have:=eR_len (b:=true) (P:=prTo m2 v u) (x1:=x2) (x2:=x1);try simp only[List.length_append]
            omega
           cases hbit1:(x1 v).toNat.testBit u==true
           ·have Hn:=hh_ (eR_step_no (b:=false) (n:=m2) (v:=v) (u:=u) (x1:=x1) (x2:=x2) hu1 (by show ((x1 v).toNat.testBit u&& !(x2 v).toNat.testBit u)=_;rw[bq1 hbit1];rfl));have e1:(x1 v).toNat.testBit u=false:=bq1 hbit1;have E1:=hh_ e1;clear hbit1 e1;go_wp2_with fail
            refine(l2Edge_any _ b1 o1 m2 c1 _ v u (x1 v) a1 (by omega) hv' (y0) (y1) (by omega)).mono ?_;rw[E1.out];rintro e w4 ⟨rfl,hb4⟩;have H1:=hh_ ((hG.keepB hb4 nr_).mono nr_ hb4.size);have H2:Hid (Below (w.heap.size+2) w2 w4):=hbr.trans (hb4.mono (by omega));clear hb4 hG hbr p0 p1 p2 p3 a1 a2;go_wp2;go_roundw;case rel=>exact⟨u+1,A5,c5,by omega,by omega,by go_num,by rw[Hn.out]<;>first|rfl|(rw[List.length_append]),by rw[Hn.out];exact H1,H2⟩
            case measure=>simp[intOf];omega
           ·have e1:(x1 v).toNat.testBit u=true:=bq2 hbit1;have E1:=hh_ e1;clear hbit1 e1;go_wp2_with fail
            refine(l2Edge_any _ b1 o1 m2 c1 _ v u (x1 v) a1 (by omega) hv' (y0) (y1) (by omega)).mono ?_;rw[E1.out];rintro e w4 ⟨rfl,hb4⟩;have H1:=hh_ ((hG.keepB hb4 nr_).mono nr_ hb4.size);have H2:Hid (Below (w.heap.size+2) w2 w4):=hbr.trans (hb4.mono (by omega));have q2:=up hb4 p2 (by omega);have q3:=up hb4 p3 (by omega);have a3:=up hb4 a2 (by omega);have z4:=hb4.size;clear hb4 hG hbr p0 p1 p2 p3 a1 a2;cases hbit2:(x2 v).toNat.testBit u==false
            ·have e2:(x2 v).toNat.testBit u=true:=bq1 hbit2;have E2:=hh_ e2;have Hn:=hh_ (eR_step_no (b:=false) (n:=m2) (v:=v) (u:=u) (x1:=x1) (x2:=x2) hu1 (by show ((x1 v).toNat.testBit u&& !(x2 v).toNat.testBit u)=_;rw[E1.out,E2.out];rfl));clear hbit2 e2;go_wp2_with fail
             refine(l2Edge_any _ b2 o2 m2 c2 _ v u (x2 v) a3 (by omega) hv' (y2) (y3) (by omega)).mono ?_;rw[E2.out];rintro e w5 ⟨rfl,hb5⟩;have H3:=hh_ ((H1.keepB hb5 nr_).mono nr_ hb5.size);have H4:Hid (Below (w.heap.size+2) w2 w5):=H2.trans (hb5.mono (by omega));clear hb5 H1 H2 q2 q3 a3;go_wp2;go_roundw;case rel=>exact⟨u+1,A5,c5,by omega,by omega,by go_num,by rw[Hn.out]<;>first|rfl|(rw[List.length_append]),by rw[Hn.out];exact H3,H4⟩
             case measure=>simp[intOf];omega
            ·have e2:(x2 v).toNat.testBit u=false:=bq2 hbit2;have E2:=hh_ e2;have Hn:=hh_ (eR_step_yes (b:=false) (n:=m2) (v:=v) (u:=u) (x1:=x1) (x2:=x2) hu1 (by show ((x1 v).toNat.testBit u&& !(x2 v).toNat.testBit u)=_;rw[E1.out,E2.out];rfl));clear hbit2 e2;go_wp2_with fail
             refine(l2Edge_any _ b2 o2 m2 c2 _ v u (x2 v) a3 (by omega) hv' (y2) (y3) (by omega)).mono ?_;rw[E2.out];rintro e w5 ⟨rfl,hb5⟩;have H3:=hh_ ((H1.keepB hb5 nr_).mono nr_ hb5.size);have H4:Hid (Below (w.heap.size+2) w2 w5):=H2.trans (hb5.mono (by omega));have z5:=hb5.size;clear hb5 H1 H2 q2 q3 a3;go_wp2_with (first|(at_builtin;(refine wpList_pushE w5 rfl _ _ rfl (w.heap.size+2) w5.heap.size A5 c5 (eR false (prTo m2 v u) x1 x2) H3.out (by omega) false (v:Int) (u:Int) rfl 1 w5.heap.size rfl rfl (by omega) ?_;intro g cap w6 hO6 hb6)))
             have H5:Hid (Own w6 (w.heap.size+2) w6.heap.size 48 3 (some ⟨g,0,none⟩) (eR false (prTo m2 v (u+1)) x1 x2).length cap (edT (eR false (prTo m2 v (u+1)) x1 x2))):=by
              show Own _ _ _ _ _ _ _ _ _;rw[Hn.out];rw[List.length_append];exact hO6
             have H6:Hid (Below (w.heap.size+2) w2 w6):=H4.trans hb6;clear hO6 hb6 H3 H4;go_wp2;go_roundw;case rel=>exact⟨u+1,_,cap,by omega,by omega,by go_num,by rw[Hn.out];rw[List.length_append];rfl,H5,H6⟩
             case measure=>simp[intOf];omega
          ·have hge:(m2:Int)<=u:=by omega
           obtain rfl:u=m2:=by omega
           have Hr:=hh_ (prTo_row (n:=u) (v:=v));clear p1 p2 p3 a1 a2;go_wp2;go_roundw;case rel=>exact⟨v+1,A5,c5,by omega,by go_num,by rw[Hr.out]<;>first|rfl|(rw[List.length_append]),by rw[Hr.out];exact hG,hbr⟩
           case measure=>simp[intOf];omega
        ·have hge:(m2:Int)<=v:=by omega
         obtain rfl:v=m2:=by omega
         have Hr:=hh_ (prTo_end v (v+1) nr_);go_wp2;go_roundw;case rel=>exact .inr (.inl ⟨A5,c5,rfl,by rw[Hr.out]<;>first|rfl|(rw[List.length_append]),by rw[Hr.out] at hG;exact hG,hbr⟩)
         case measure=>simp[intOf]
     ·
       go_wp2;go_loopw [6,8] (fun l i wr=> ∃(v:Nat) (A5:Option Addr) (c5:Nat),v<=m2/\i=.int .i64 v/\l=.slice A5 (eR false (pr m2) x1 x2++eR true (prTo m2 v (v+1)) x2 x1).length c5/\Hid (Own wr (w.heap.size+2) wr.heap.size 48 3 A5 (eR false (pr m2) x1 x2++eR true (prTo m2 v (v+1)) x2 x1).length c5 (edT (eR false (pr m2) x1 x2++eR true (prTo m2 v (v+1)) x2 x1)))/\Hid (Below (w.heap.size+2) w2 wr)) (fun _ i _=>m2-(intOf i).toNat);case atStart=>exact⟨0,A5,c5,Nat.zero_le _,rfl,by rw[prTo_zero];show _=Value.slice A5 (eR false (pr m2) x1 x2++ []).length c5;rw[List.append_nil],by rw[prTo_zero];show Hid (Own _ _ _ _ _ _ (eR false (pr m2) x1 x2++ []).length _ (edT (eR false (pr m2) x1 x2++ [])));rw[List.append_nil];exact hG,hbr⟩
       case round=>
        rename_i wy _ _;obtain⟨v,A5,c5,hv,rfl,rfl,hG,hbr⟩:=hrel;have p0:=up hbr.out g0 (by omega);have p1:=up hbr.out g1 (by omega);have zy:=hbr.size;by_cases hlt:v<m2
        ·have y0:0<=x1 v:=by have:=HX1.out v (by omega);omega
         have y1:x1 v<16777216:=by have:=HX1.out v (by omega);have:=HV1.lt128 (v:=v) (by omega);omega
         have y2:0<=x2 v:=by have:=HX2.out v (by omega);omega
         have y3:x2 v<16777216:=by have:=HX2.out v (by omega);have:=HV2.lt128 (v:=v) (by omega);omega
         have i2:(v:Int)<m2:=by omega
         go_wp2;go_loopw [6,9] (fun l i wr=> ∃(u:Nat) (A5:Option Addr) (c5:Nat),v+1<=u/\u<=m2/\i=.int .i64 u/\l=.slice A5 (eR false (pr m2) x1 x2++eR true (prTo m2 v u) x2 x1).length c5/\Hid (Own wr (w.heap.size+2) wr.heap.size 48 3 A5 (eR false (pr m2) x1 x2++eR true (prTo m2 v u) x2 x1).length c5 (edT (eR false (pr m2) x1 x2++eR true (prTo m2 v u) x2 x1)))/\Hid (Below (w.heap.size+2) w2 wr)) (fun _ i _=>m2-(intOf i).toNat);case atStart=>exact⟨v+1,A5,c5,nr_,by omega,by go_num,rfl,hG,hbr⟩
         case round=>
          rename_i wz _ _;obtain⟨u,A5,c5,hu1,hu2,rfl,rfl,hG,hbr⟩:=hrel;have p0:=up hbr.out g0 (by omega);have p1:=up hbr.out g1 (by omega);have p2:=up hbr.out g2 (by omega);have p3:=up hbr.out g3 (by omega);have a1:=(hbr.cell (p:=⟨b1,o1+v,none⟩) (by show b1<_;omega)).trans (HC1 v hlt);have a2:=(hbr.cell (p:=⟨b2,o2+v,none⟩) (by show b2<_;omega)).trans (HC2 v hlt);have zz:=hbr.size;have hv':v<m2:=hlt;by_cases hlu:u<m2
          ·have i3:(u:Int)<m2:=by omega
           have hlen:(eR false (pr m2) x1 x2++eR true (prTo m2 v u) x2 x1).length<=42:=by
            have q1:=prTo_len hn7 hlt hu1 hu2;have q2:=length_pr_le hn7;have:=eR_len (b:=false) (P:=pr m2) (x1:=x1) (x2:=x2);have:=eR_len (b:=false) (P:=prTo m2 v u) (x1:=x1) (x2:=x2);have:=eR_len (b:=true) (P:=prTo m2 v u) (x1:=x2) (x2:=x1);try simp only[List.length_append]
            omega
           cases hbit1:(x1 v).toNat.testBit u==false
           ·have Hn:=hh_ (eR_step_no (b:=true) (n:=m2) (v:=v) (u:=u) (x1:=x2) (x2:=x1) hu1 (by show ((x2 v).toNat.testBit u&& !(x1 v).toNat.testBit u)=_;rw[bq1 hbit1];exact Bool.and_false _));have e1:(x1 v).toNat.testBit u=true:=bq1 hbit1;have E1:=hh_ e1;clear hbit1 e1;go_wp2_with fail
            refine(l2Edge_any _ b1 o1 m2 c1 _ v u (x1 v) a1 (by omega) hv' (y0) (y1) (by omega)).mono ?_;rw[E1.out];rintro e w4 ⟨rfl,hb4⟩;have H1:=hh_ ((hG.keepB hb4 nr_).mono nr_ hb4.size);have H2:Hid (Below (w.heap.size+2) w2 w4):=hbr.trans (hb4.mono (by omega));clear hb4 hG hbr p0 p1 p2 p3 a1 a2;go_wp2;go_roundw;case rel=>exact⟨u+1,A5,c5,by omega,by omega,by go_num,by rw[Hn.out]<;>first|rfl|(rw[List.length_append]),by rw[Hn.out];exact H1,H2⟩
            case measure=>simp[intOf];omega
           ·have e1:(x1 v).toNat.testBit u=false:=bq2 hbit1;have E1:=hh_ e1;clear hbit1 e1;go_wp2_with fail
            refine(l2Edge_any _ b1 o1 m2 c1 _ v u (x1 v) a1 (by omega) hv' (y0) (y1) (by omega)).mono ?_;rw[E1.out];rintro e w4 ⟨rfl,hb4⟩;have H1:=hh_ ((hG.keepB hb4 nr_).mono nr_ hb4.size);have H2:Hid (Below (w.heap.size+2) w2 w4):=hbr.trans (hb4.mono (by omega));have q2:=up hb4 p2 (by omega);have q3:=up hb4 p3 (by omega);have a3:=up hb4 a2 (by omega);have z4:=hb4.size;clear hb4 hG hbr p0 p1 p2 p3 a1 a2;cases hbit2:(x2 v).toNat.testBit u==true
            ·have e2:(x2 v).toNat.testBit u=false:=bq1 hbit2;have E2:=hh_ e2;have Hn:=hh_ (eR_step_no (b:=true) (n:=m2) (v:=v) (u:=u) (x1:=x2) (x2:=x1) hu1 (by show ((x2 v).toNat.testBit u&& !(x1 v).toNat.testBit u)=_;rw[E1.out,E2.out];rfl));clear hbit2 e2;go_wp2_with fail
             refine(l2Edge_any _ b2 o2 m2 c2 _ v u (x2 v) a3 (by omega) hv' (y2) (y3) (by omega)).mono ?_;rw[E2.out];rintro e w5 ⟨rfl,hb5⟩;have H3:=hh_ ((H1.keepB hb5 nr_).mono nr_ hb5.size);have H4:Hid (Below (w.heap.size+2) w2 w5):=H2.trans (hb5.mono (by omega));clear hb5 H1 H2 q2 q3 a3;go_wp2;go_roundw;case rel=>exact⟨u+1,A5,c5,by omega,by omega,by go_num,by rw[Hn.out]<;>first|rfl|(rw[List.length_append]),by rw[Hn.out];exact H3,H4⟩
             case measure=>simp[intOf];omega
            ·have e2:(x2 v).toNat.testBit u=true:=bq2 hbit2;have E2:=hh_ e2;have Hn:=hh_ (eR_step_yes (b:=true) (n:=m2) (v:=v) (u:=u) (x1:=x2) (x2:=x1) hu1 (by show ((x2 v).toNat.testBit u&& !(x1 v).toNat.testBit u)=_;rw[E2.out,E1.out];rfl));clear hbit2 e2;go_wp2_with fail
             refine(l2Edge_any _ b2 o2 m2 c2 _ v u (x2 v) a3 (by omega) hv' (y2) (y3) (by omega)).mono ?_;rw[E2.out];rintro e w5 ⟨rfl,hb5⟩;have H3:=hh_ ((H1.keepB hb5 nr_).mono nr_ hb5.size);have H4:Hid (Below (w.heap.size+2) w2 w5):=H2.trans (hb5.mono (by omega));have z5:=hb5.size;clear hb5 H1 H2 q2 q3 a3;go_wp2_with (first|(at_builtin;(refine wpList_pushE w5 rfl _ _ rfl (w.heap.size+2) w5.heap.size A5 c5 (eR false (pr m2) x1 x2++eR true (prTo m2 v u) x2 x1) H3.out (by omega) true (v:Int) (u:Int) (by rw[List.length_append];rfl) 1 w5.heap.size rfl rfl (by omega) ?_;intro g cap w6 hO6 hb6)))
             have H5:Hid (Own w6 (w.heap.size+2) w6.heap.size 48 3 (some ⟨g,0,none⟩) (eR false (pr m2) x1 x2++eR true (prTo m2 v (u+1)) x2 x1).length cap (edT (eR false (pr m2) x1 x2++eR true (prTo m2 v (u+1)) x2 x1))):=by
              show Own _ _ _ _ _ _ _ _ _;rw[Hn.out];rw[<-List.append_assoc,List.length_append];exact hO6
             have H6:Hid (Below (w.heap.size+2) w2 w6):=H4.trans hb6;clear hO6 hb6 H3 H4;go_wp2;go_roundw;case rel=>exact⟨u+1,_,cap,by omega,by omega,by go_num,by rw[Hn.out];simp only[List.length_append];rfl,H5,H6⟩
             case measure=>simp[intOf];omega
          ·have hge:(m2:Int)<=u:=by omega
           obtain rfl:u=m2:=by omega
           have Hr:=hh_ (prTo_row (n:=u) (v:=v));clear p1 p2 p3 a1 a2;go_wp2;go_roundw;case rel=>exact⟨v+1,A5,c5,by omega,by go_num,by rw[Hr.out]<;>first|rfl|(rw[List.length_append]),by rw[Hr.out];exact hG,hbr⟩
           case measure=>simp[intOf];omega
        ·have hge:(m2:Int)<=v:=by omega
         obtain rfl:v=m2:=by omega
         have Hr:=hh_ (prTo_end v (v+1) nr_);go_wp2;go_roundw;case rel=>exact .inr (.inr ⟨A5,c5,rfl,by rw[Hr.out]<;>first|rfl|(rw[List.length_append]),by rw[Hr.out] at hG;exact hG,hbr⟩)
         case measure=>simp[intOf]
     ·have zx:=hbr.size;have HB6:=hh_ (HB2.trans (hbr.mono (by omega)));go_wp2;go_ret2;exact⟨A5,c5,by rw[hyes.out,hL.out]<;>first|rfl|(rw[List.length_append];rfl),by rw[hL.out];exact hG.mono (by omega) nr_,HB6⟩
   ·have hno:Hid (ebB s1 m1 x1 s2 m2 x2=false):=by show ebB _ _ _ _ _ _=_;unfold ebB;rw[Ho1.out,Ho2.out,decide_eq_false hs];rfl
    have hL:Hid (ebL s1 m1 x1 s2 m2 x2= []):=by show ebL _ _ _ _ _ _=_;unfold ebL;rw[hno.out];rfl
    have hne:(s1 !=s2)=true:=by simp[hs]
    clear hs;go_wp2;go_ret2;exact⟨_,0,by rw[hno.out,hL.out];rfl,by rw[hL.out];exact HG2.mono (by omega) nr_,HB2⟩
end Go.Proofs.YtfabbohijhjpcaaGreatDoor
