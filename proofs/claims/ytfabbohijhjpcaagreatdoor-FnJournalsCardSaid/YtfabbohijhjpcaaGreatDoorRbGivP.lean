/- Lemmas. -/
import Derived.Test.YtfabbohijhjpcaaGreatDoorRbSimI
/-
-/
namespace Go.Proofs.YtfabbohijhjpcaaGreatDoor
open Go.RowKit
set_option maxHeartbeats 3200000
theorem edge_b {A:Option Addr} {m c:Nat} {r:Nat->Nat} {W:World} (h:GV W A m c r) {v u:Nat} (hv:v<m) (hu:u<m) {b:Bool} (hb:(r v).testBit u=b): ∀z:World,Below W.heap.size W z->Calls Tryz.prog 45 #[.agg #[.int .i64 m,.slice A m c],.int .i64 v,.int .i64 u] z fun e w'=>e=.returned (.bool b)/\Below z.heap.size z w':=fun z hz=>by
 have:=l2Edge_v (h.keep hz) hv hu
 rwa [hb] at this
set_option maxRecDepth 100000 in
theorem l12Umbrella_v {A:Option Addr} {m c:Nat} {r:Nat->Nat} {Al:Option Addr} {cl:Nat} {l:List Nat} {w:World} (h:GV w A m c r) (hl:LN w Al cl l) (hlt: ∀v∈l,v<m) (hlen:l.length<=7):
 Calls Tryz.prog 258 #[.agg #[.int .i64 m,.slice A m c],.slice Al l.length cl] w fun e w'=>e=.returned (.bool (umB r l))/\Below w.heap.size w w':=by
 have hn7:=h.vg.n7;have HL:=hh_ hl;have Hlt:=hh_ hlt;have HV:=hh_ h.vg;clear hl hlt;obtain⟨W,hW,HB,HG⟩:=gbW h;have HW:=hh_ hW;clear hW h;obtain⟨e0,e1⟩:=gx_ HG;replace HL:=hh_ (HL.keep HB.below);have HR0:Hid (From W W):=From.refl W;go_enter Tryz.func258,Tryz.ntmps258;go_wp2_with fail
 rw[<-HW.out];clear HW e0 e1;go_wp2;go_loopw [5] (fun i wr=> ∃k:Nat,k<=l.length/\i=.int .i64 k/\Hid (Um1 r l k)/\Hid (From W wr)) (fun i _=>l.length-(intOf i).toNat);case atStart=>exact⟨0,Nat.zero_le _,rfl,Um1.zero,HR0⟩
 case round=>
  clear HR0;obtain⟨i,hi,rfl,H1,HR⟩:=hrel;by_cases hil:i<l.length
  ·have i1:(i:Int)<l.length:=by omega
   have s1:wrap64 ((i:Int)+2)=((i+2:Nat):Int):=by rw[Go.IntWalk.wrap64_in _ (by omega)];simp
   go_wp2;go_loopw [6] (fun j wr=> ∃k:Nat,i+2<=k/\k<=l.length+1/\j=.int .i64 k/\Hid (Um2 r l i k)/\Hid (From W wr)) (fun j _=>l.length+1-(intOf j).toNat);case atStart=>exact⟨i+2,nr_,by omega,by first|rfl|exact congrArg (Value.int .i64) s1|simp,Um2.zero,HR⟩
   case round=>
    clear HR s1;obtain⟨k,hk2,hk,rfl,H2,HR⟩:=hrel;by_cases hkl:k<l.length
    ·have i2:(k:Int)<l.length:=by omega
     have s1:wrap64 ((i:Int)+1)=((i+1:Nat):Int):=by rw[Go.IntWalk.wrap64_in _ (by omega)];simp
     go_wp2;go_loopw [7] (fun j wr=> ∃t:Nat,i+1<=t/\t<=k/\j=.int .i64 t/\Hid (Um3 r l i k t)/\Hid (From W wr)) (fun j _=>k-(intOf j).toNat);case atStart=>exact⟨i+1,nr_,by omega,by first|rfl|exact congrArg (Value.int .i64) s1|simp,Um3.zero,HR⟩
     case round=>
      clear HR s1;obtain⟨j,hij,hjk,rfl,H3,HR⟩:=hrel;by_cases hlt:j<k
      ·have i4:(j:Int)<k:=by omega
       have i5:(j:Int)<l.length:=by omega
       have HGr:=hh_ (HG.keep HR.below);have HLr:=hh_ (HL.keep HR.below);obtain⟨bl,ol,rfl⟩:=HLr.addr (by omega);have e0:=HGr.c0;have e1:=HGr.c1;have p0:=HLr.cell hil;have p1:=HLr.cell hkl;have hjl:j<l.length:=by omega
       have p2:=HLr.cell hjl;have hu:=getD_lt Hlt.out hil;have hv:=getD_lt Hlt.out hkl;have hy:=getD_lt Hlt.out hjl;have Hub:Hid (Ub r l i k j↔((r (l.getD i 0)).testBit (l.getD k 0)=true->(r (l.getD i 0)).testBit (l.getD j 0)=true/\(r (l.getD j 0)).testBit (l.getD k 0)=true)):=by
        show _↔_;unfold Ub;rw[HV.sym _ _ hy hv]
       obtain⟨u,hu'⟩: ∃u,u=l.getD i 0:=⟨_,rfl⟩;obtain⟨v,hv'⟩: ∃v,v=l.getD k 0:=⟨_,rfl⟩;obtain⟨y,hy'⟩: ∃y,y=l.getD j 0:=⟨_,rfl⟩;rw[<-hu',<-hv',<-hy'] at Hub;rw[<-hu'] at p0 hu;rw[<-hv'] at p1 hv;rw[<-hy'] at p2 hy;have HBr:=hh_ (HB.up HR.out);have HG0:=HGr;clear hu' hv' hy';cases b1:(r u).testBit v
       ·have K1:=hh_ (edge_b HG0.gv hu hv b1);have H3':Hid (Um3 r l i k (j+1)):=H3.step (Hub.out.2 fun hb=>by rw[b1] at hb;cases hb);clear b1;go_wp2;obtain⟨HSC,HZ0,HS1⟩:=hsc5 e0 e1 p0 p1 p2;have KR1:Hid (∀z:World,Below wr.heap.size wr z->_):=fun z hz=>K1.out _ hz
        refine wpH HS1.out (fun hHeld=> ?_);refine pcY 0 ?_;iterate 8 (refine ptY ?_)
        refine w1H 9 (fun K hK=> ?_);go_simp;go_at_call 45;refine(KR1.out _ HZ0.out).mono ?_
        rintro e w1 ⟨rfl,hb1⟩;have hz1:=bl_trans HZ0.out hb1;refine hK.out _ _ (HSC.out _ hz1) (fun hHeld=> ?_);clear hK K;try simp only[Act.put,sl0,sl1,sl2]
        refine ptY ?_;iterate 24 (refine ptN ?_)
        refine ptY ?_;refine wpAnyH_done (by kernel_rfl) ?_ _;replace HR:=hh_ (HR.keep hz1);replace HBr:=hh_ (HBr.keep hz1);clear hb1 hz1 HSC HZ0 HS1 KR1;go_wp2;go_roundw;case rel=>exact⟨j+1,by omega,by omega,by go_num,H3',HR⟩
        case measure=>simp[intOf]<;>omega
       ·have K1:=hh_ (edge_b HG0.gv hu hv b1);have B1:=hh_ b1;clear b1;cases b2:(r u).testBit y
        ·have K2:=hh_ (edge_b HG0.gv hu hy b2);have Hn:Hid (umB r l=false):=um_bad (i:=i) (k:=k) (j:=j) (by omega) hlt hkl fun hb=>by
          have:=(Hub.out.1 hb B1.out).1;rw[b2] at this;cases this
         clear b2;go_wp2;obtain⟨HSC,HZ0,HS1⟩:=hsc5 e0 e1 p0 p1 p2;have KR1:Hid (∀z:World,Below wr.heap.size wr z->_):=fun z hz=>K1.out _ hz
         have KR2:Hid (∀z:World,Below wr.heap.size wr z->_):=fun z hz=>K2.out _ hz
         refine wpH HS1.out (fun hHeld=> ?_);refine pcY 0 ?_;iterate 8 (refine ptY ?_)
         refine w1H 9 (fun K hK=> ?_);go_simp;go_at_call 45;refine(KR1.out _ HZ0.out).mono ?_
         rintro e w2 ⟨rfl,hb2⟩;have hz2:=bl_trans HZ0.out hb2;refine hK.out _ _ (HSC.out _ hz2) (fun hHeld=> ?_);clear hK K;try simp only[Act.put,sl0,sl1,sl2]
         iterate 10 (refine ptY ?_)
         refine w1H 20 (fun K hK=> ?_);go_simp;go_at_call 45;refine(KR2.out _ hz2).mono ?_
         rintro e w3 ⟨rfl,hb3⟩;have hz3:=bl_trans hz2 hb3;refine hK.out _ _ (HSC.out _ hz3) (fun hHeld=> ?_);clear hK K;try simp only[Act.put,sl0,sl1,sl2]
         iterate 2 (refine ptY ?_)
         iterate 11 (refine ptN ?_)
         iterate 2 (refine ptY ?_)
         refine wpAnyH_done (by kernel_rfl) ?_ _;replace HR:=hh_ (HR.keep hz3);replace HBr:=hh_ (HBr.keep hz3);clear hb2 hz2 hb3 hz3 HSC HZ0 HS1 KR1 KR2;go_wp2;go_ret;exact⟨ret_bool Hn.symm,HBr.below⟩
        ·have K2:=hh_ (edge_b HG0.gv hu hy b2);have B2:=hh_ b2;clear b2;cases b3:(r y).testBit v
         ·have K3:=hh_ (edge_b HG0.gv hy hv b3);have Hn:Hid (umB r l=false):=um_bad (i:=i) (k:=k) (j:=j) (by omega) hlt hkl fun hb=>by
           have:=(Hub.out.1 hb B1.out).2;rw[b3] at this;cases this
          clear b3;go_wp2;obtain⟨HSC,HZ0,HS1⟩:=hsc5 e0 e1 p0 p1 p2;have KR1:Hid (∀z:World,Below wr.heap.size wr z->_):=fun z hz=>K1.out _ hz
          have KR2:Hid (∀z:World,Below wr.heap.size wr z->_):=fun z hz=>K2.out _ hz
          have KR3:Hid (∀z:World,Below wr.heap.size wr z->_):=fun z hz=>K3.out _ hz
          refine wpH HS1.out (fun hHeld=> ?_);refine pcY 0 ?_;iterate 8 (refine ptY ?_)
          refine w1H 9 (fun K hK=> ?_);go_simp;go_at_call 45;refine(KR1.out _ HZ0.out).mono ?_
          rintro e w4 ⟨rfl,hb4⟩;have hz4:=bl_trans HZ0.out hb4;refine hK.out _ _ (HSC.out _ hz4) (fun hHeld=> ?_);clear hK K;try simp only[Act.put,sl0,sl1,sl2]
          iterate 10 (refine ptY ?_)
          refine w1H 20 (fun K hK=> ?_);go_simp;go_at_call 45;refine(KR2.out _ hz4).mono ?_
          rintro e w5 ⟨rfl,hb5⟩;have hz5:=bl_trans hz4 hb5;refine hK.out _ _ (HSC.out _ hz5) (fun hHeld=> ?_);clear hK K;try simp only[Act.put,sl0,sl1,sl2]
          iterate 11 (refine ptY ?_)
          refine w1H 32 (fun K hK=> ?_);go_simp;go_at_call 45;refine(KR3.out _ hz5).mono ?_
          rintro e w6 ⟨rfl,hb6⟩;have hz6:=bl_trans hz5 hb6;refine hK.out _ _ (HSC.out _ hz6) (fun hHeld=> ?_);clear hK K;try simp only[Act.put,sl0,sl1,sl2]
          iterate 3 (refine ptY ?_)
          refine wpAnyH_done (by kernel_rfl) ?_ _;replace HR:=hh_ (HR.keep hz6);replace HBr:=hh_ (HBr.keep hz6);clear hb4 hz4 hb5 hz5 hb6 hz6 HSC HZ0 HS1 KR1 KR2 KR3;go_wp2;go_ret;exact⟨ret_bool Hn.symm,HBr.below⟩
         ·have K3:=hh_ (edge_b HG0.gv hy hv b3);have H3':Hid (Um3 r l i k (j+1)):=H3.step (Hub.out.2 fun _=>⟨B2.out,b3⟩);clear b3;go_wp2;obtain⟨HSC,HZ0,HS1⟩:=hsc5 e0 e1 p0 p1 p2;have KR1:Hid (∀z:World,Below wr.heap.size wr z->_):=fun z hz=>K1.out _ hz
          have KR2:Hid (∀z:World,Below wr.heap.size wr z->_):=fun z hz=>K2.out _ hz
          have KR3:Hid (∀z:World,Below wr.heap.size wr z->_):=fun z hz=>K3.out _ hz
          refine wpH HS1.out (fun hHeld=> ?_);refine pcY 0 ?_;iterate 8 (refine ptY ?_)
          refine w1H 9 (fun K hK=> ?_);go_simp;go_at_call 45;refine(KR1.out _ HZ0.out).mono ?_
          rintro e w7 ⟨rfl,hb7⟩;have hz7:=bl_trans HZ0.out hb7;refine hK.out _ _ (HSC.out _ hz7) (fun hHeld=> ?_);clear hK K;try simp only[Act.put,sl0,sl1,sl2]
          iterate 10 (refine ptY ?_)
          refine w1H 20 (fun K hK=> ?_);go_simp;go_at_call 45;refine(KR2.out _ hz7).mono ?_
          rintro e w8 ⟨rfl,hb8⟩;have hz8:=bl_trans hz7 hb8;refine hK.out _ _ (HSC.out _ hz8) (fun hHeld=> ?_);clear hK K;try simp only[Act.put,sl0,sl1,sl2]
          iterate 11 (refine ptY ?_)
          refine w1H 32 (fun K hK=> ?_);go_simp;go_at_call 45;refine(KR3.out _ hz8).mono ?_
          rintro e w9 ⟨rfl,hb9⟩;have hz9:=bl_trans hz8 hb9;refine hK.out _ _ (HSC.out _ hz9) (fun hHeld=> ?_);clear hK K;try simp only[Act.put,sl0,sl1,sl2]
          iterate 3 (refine ptY ?_)
          refine wpAnyH_done (by kernel_rfl) ?_ _;replace HR:=hh_ (HR.keep hz9);replace HBr:=hh_ (HBr.keep hz9);clear hb7 hz7 hb8 hz8 hb9 hz9 HSC HZ0 HS1 KR1 KR2 KR3;go_wp2;go_roundw;case rel=>exact⟨j+1,by omega,by omega,by go_num,H3',HR⟩
          case measure=>simp[intOf]<;>omega
      ·have H2':Hid (Um2 r l i (k+1)):=H2.step fun j' h1 h2=>H3.out j' h1 (by omega)
       have i4:(k:Int)<=j:=by omega
       go_wp2;go_roundw;case rel=>exact⟨k+1,by omega,by omega,by go_num,H2',HR⟩
       case measure=>simp[intOf]<;>omega
    ·have H1':Hid (Um1 r l (i+1)):=H1.step H2.out (by omega);have i2:(l.length:Int)<=(k:Int):=by omega
     go_wp2;go_roundw;case rel=>exact⟨i+1,by omega,by go_num,H1',HR⟩
     case measure=>simp[intOf]<;>omega
  ·have Hy:Hid (umB r l=true):=um_yes (H1.all (by omega));have HBr:=hh_ (HB.up HR.out);have i1:(l.length:Int)<=(i:Int):=by omega
   go_wp2;go_ret;exact⟨ret_bool Hy.symm,HBr.below⟩
theorem l1In_b {n lo hi:Int} (w:World) {b:Bool} (h:decide (lo<=n/\n<=hi)=b):Calls Tryz.prog 68 #[.int .i64 n,.int .i64 lo,.int .i64 hi] w fun e w'=>e=.returned (.bool b)/\Below w.heap.size w w':=
 (l1In_any n lo hi w).mono fun _ _ ⟨h1,h2⟩=>⟨by rw[h1,<-h];simp,h2▸br_⟩
def sl (n:Nat) (x:Nat->Int) (m:Nat) (y:Nat->Int):Bool:=decide (n=m/\ ∀i,i<n->x i=y i)
theorem sl_len {n m:Nat} {x y:Nat->Int} (h:n≠m):sl n x m y=false:=by
 unfold sl;exact decide_eq_false fun k=>h k.1
theorem sl_no {n:Nat} {x y:Nat->Int} {k:Nat} (hk:k<n) (h:x k≠y k):sl n x n y=false:=by
 unfold sl;exact decide_eq_false fun q=>h (q.2 k hk)
theorem sl_yes {n:Nat} {x y:Nat->Int} (h: ∀i,i<n->x i=y i):sl n x n y=true:=by
 unfold sl;exact decide_eq_true ⟨rfl,h⟩
set_option maxHeartbeats 1000000
def gsl (s:Int) (n:Nat) (x:Nat->Int) (t:Int) (m:Nat) (y:Nat->Int):Bool:=decide (s=t)&&sl n x m y
theorem gsl_sz {s t:Int} {n m:Nat} {x y:Nat->Int} (h:s≠t):gsl s n x t m y=false:=by
 unfold gsl;rw[decide_eq_false h];rfl
theorem gsl_rows {s:Int} {n m:Nat} {x y:Nat->Int}:gsl s n x s m y=sl n x m y:=by
 unfold gsl;rw[decide_eq_true rfl];rfl
theorem EqualGraphs_s (s1 s2:Int) (A1 A2:Option Addr) (n1 n2 c1 c2:Nat) (x1 x2:Nat->Int) (w:World) (B:Nat) (h1:Rd w B A1 n1 c1 x1) (h2:Rd w B A2 n2 c2 x2) (hB:B<=w.heap.size) (hn1:n1<=1073741824) (hn2:n2<=1073741824):
 Calls Tryz.prog 10 #[.agg #[.int .i64 s1,.slice A1 n1 c1],.agg #[.int .i64 s2,.slice A2 n2 c2]] w fun e w'=>e=.returned (.bool (gsl s1 n1 x1 s2 n2 x2))/\Below w.heap.size w w':=by
 obtain⟨W,hW⟩: ∃W,W=((w.alloc (Obj.cells #[.int .i64 s1,.slice A1 n1 c1] 26)).alloc (Obj.cells #[.int .i64 s2,.slice A2 n2 c2] 26)):=⟨_,rfl⟩;have HB:Hid (Below w.heap.size w W):=by rw[hW];exact(br_.alloc nr_ _).alloc (by simp) _
 have hWz:W.heap.size=w.heap.size+1+1:=by rw[hW];simp
 have g1:W.cell? ⟨w.heap.size,1,none⟩=some (.slice A1 n1 c1):=by rw[hW];simp[go_sem]
 have g2:W.cell? ⟨w.heap.size+1,1,none⟩=some (.slice A2 n2 c2):=by rw[hW];simp[go_sem]
 by_cases hs:s1=s2
 rotate_left
 ·have e:=hh_ (gsl_sz (n:=n1) (m:=n2) (x:=x1) (y:=x2) hs);have HW:=hh_ hW;clear h1 h2 g1 g2 hW hWz;go_enter Tryz.func10,Tryz.ntmps10;go_wp2;go_ret;rw[<-HW.out];exact⟨ret_bool e.symm,HB⟩
 subst hs;rw[gsl_rows];by_cases hne:n1=n2
 rotate_left
 ·have e:=hh_ (sl_len (x:=x1) (y:=x2) hne);have hne':(n1:Int)≠(n2:Int):=by omega
  have HW:=hh_ hW;clear h1 h2 g1 g2 hW hWz;go_enter Tryz.func10,Tryz.ntmps10;go_wp2;go_ret;rw[<-HW.out];exact⟨ret_bool e.symm,HB⟩
 subst hne;have H1:=hh_ h1;have H2:=hh_ h2;have G1:=hh_ g1;have G2:=hh_ g2;have HW:=hh_ hW;clear h1 h2 g1 g2 hW;go_enter Tryz.func10,Tryz.ntmps10;go_wp2;rw[<-HW.out];go_loopw [5] (fun i wr=> ∃k:Nat,k<=n1/\i=.int .i64 k/\Hid (∀j,j<k->x1 j=x2 j)/\Below W.heap.size W wr) (fun i _=>n1-(intOf i).toNat);case atStart=>exact⟨0,Nat.zero_le _,rfl,(fun j hj=>absurd hj (by omega)),br_⟩
 case round=>
  obtain⟨k,hk,rfl,hall,hbr⟩:=hrel;have q1:=up hbr G1.out (by omega);have q2:=up hbr G2.out (by omega);by_cases hlt:k<n1
  ·have hbw:=HB.trans (hbr.mono HB.size);obtain⟨b1,o1,rfl,l1,c1'⟩:=H1.pos (by omega);obtain⟨b2,o2,rfl,l2,c2'⟩:=H2.pos (by omega);have f1:=(hbw.cell (p:=⟨b1,o1+k,none⟩) (by show b1<_;omega)).trans (c1' k hlt);have f2:=(hbw.cell (p:=⟨b2,o2+k,none⟩) (by show b2<_;omega)).trans (c2' k hlt);have hi:(k:Int)<n1:=by omega
   clear c1' c2';by_cases hq:x1 k=x2 k
   ·have HB:=hh_ hbr;have Hq:=hh_ hq;rw[<-hq] at f2;clear hbr hq hbw;go_wp2;go_quiet (fail)
    go_wp2;go_roundw;case rel=>
     refine⟨k+1,by omega,by go_num,fun j hj=> ?_,below_drewN HB _⟩;by_cases hjk:j<k
     ·exact hall.out j hjk
     ·obtain rfl:j=k:=by omega
      exact Hq.out
    case measure=>simp[intOf];omega
   ·have HBW:=hh_ hbw;have e:=hh_ (sl_no hlt hq);clear hbr hbw;go_wp2;go_quiet (fail)
    go_wp2;go_ret;exact⟨ret_bool e.symm,below_drewN HBW.out _⟩
  ·have hge:(n1:Int)<=k:=by omega
   have HBW:Hid (Below w.heap.size w wr):=HB.trans (hbr.mono HB.size);have e:=hh_ (sl_yes (n:=n1) (x:=x1) (y:=x2) fun j hj=>hall.out j (by omega));clear hbr;go_wp2;go_ret;exact⟨ret_bool e.symm,HBW.out⟩
def Im1 (L R:List Int) (k:Nat):Prop:= ∀i,i<k->0<=L.getD i 0/\L.getD i 0<=R.getD i 0/\R.getD i 0<=99
noncomputable def imB (L R:List Int):Bool:=decide (1<=L.length/\L.length<=7)&&decide (R.length=L.length)&& @decide (Im1 L R L.length) (Classical.propDecidable _)
section
variable {L R:List Int} {k:Nat}
theorem im_len (h: ¬(1<=L.length/\L.length<=7)):imB L R=false:=by unfold imB;rw[decide_eq_false h];rfl
theorem im_same (h:R.length≠L.length):imB L R=false:=by unfold imB;rw[decide_eq_false h,Bool.and_false];rfl
theorem im_no (hk:k<L.length) (h: ¬(0<=L.getD k 0/\L.getD k 0<=R.getD k 0/\R.getD k 0<=99)):imB L R=false:=by
 unfold imB;rw[@decide_eq_false _ (Classical.propDecidable _) fun hb=>h (hb k hk),Bool.and_false]
theorem im_yes (h1:1<=L.length/\L.length<=7) (h2:R.length=L.length) (h3:Im1 L R L.length):imB L R=true:=by
 unfold imB;rw[decide_eq_true h1,decide_eq_true h2,@decide_eq_true _ (Classical.propDecidable _) h3];rfl
theorem Im1.zero:Im1 L R 0:=fun i h=>absurd h (by omega)
theorem Im1.step (h:Im1 L R k) (h2:0<=L.getD k 0/\L.getD k 0<=R.getD k 0/\R.getD k 0<=99):Im1 L R (k+1):=fun i hi=>by
 by_cases e:i<k
 ·exact h i e
 ·obtain rfl:i=k:=by omega
  exact h2
theorem im_parts (h:imB L R=true):(1<=L.length/\L.length<=7)/\R.length=L.length/\Im1 L R L.length:=by
 unfold imB at h;simp only[Bool.and_eq_true,decide_eq_true_eq] at h;exact⟨h.1.1,h.1.2,h.2⟩
end
structure IB (w:World) (q:Nat) (Al:Option Addr) (n cl:Nat) (Ar:Option Addr) (k cr:Nat):Prop where
 c0:w.cell? ⟨q,0,none⟩=some (.slice Al n cl)
 c1:w.cell? ⟨q,1,none⟩=some (.slice Ar k cr)
theorem IB.keep {w w':World} {q:Nat} {Al:Option Addr} {n cl:Nat} {Ar:Option Addr} {k cr:Nat} (h:IB w q Al n cl Ar k cr) (hb:Below w.heap.size w w'):IB w' q Al n cl Ar k cr:=⟨up_ hb h.c0,up_ hb h.c1⟩
theorem IB.lt {w:World} {q:Nat} {Al:Option Addr} {n cl:Nat} {Ar:Option Addr} {k cr:Nat} (h:IB w q Al n cl Ar k cr):q<w.heap.size:=World.block_lt_of_cell? _ _ h.c0
set_option maxHeartbeats 1600000
section
variable {A:Option Addr} {m c:Nat} {r:Nat->Nat}
theorem LargestClique_v {w:World} (h:GV w A m c r):
 Calls Tryz.prog 316 #[.agg #[.int .i64 m,.slice A m c]] w fun e w'=>e=.returned (.int .i64 (lqN r m:Nat))/\Below w.heap.size w w':=by
 obtain⟨W,hW,HB,HG⟩:=gbW h;have HW:=hh_ hW;clear hW h;obtain⟨e0,e1⟩:=gx_ HG;go_enter Tryz.func316,Tryz.ntmps316;go_wp2_with fail
 rw[<-HW.out];refine(largest_g (p:=cliq r) (caps:= #[]) (ent_of Tryz.func309 (by kernel_rfl) rfl) W HG.gv (fun s z hs hb=>IsClique_v (HG.gv.keep hb) hs)).mono ?_;rintro e w1 ⟨rfl,hb1⟩;clear HW;clear e0 e1;obtain⟨HB,HG,e0,e1⟩:=kG_ HB HG hb1;clear hb1;go_wp2;go_ret;exact⟨rfl,HB.below⟩
theorem CliqueNumber_v {w:World} (h:GV w A m c r):
 Calls Tryz.prog 254 #[.agg #[.int .i64 m,.slice A m c]] w fun e w'=>e=.returned (.int .i64 (cn (lqN r m):Nat))/\Below w.heap.size w w':=by
 have hl:lqN r m<128:=Nat.lt_of_lt_of_le (lq_lt r m) (two_pow_le h.vg.n7);obtain⟨W,hW,HB,HG⟩:=gbW h;have HW:=hh_ hW;clear hW h;obtain⟨e0,e1⟩:=gx_ HG;go_enter Tryz.func254,Tryz.ntmps254;go_wp2_with fail
 rw[<-HW.out];refine(IsGraph_v HG.gv).mono ?_;rintro e w1 ⟨rfl,hb1⟩;clear HW;clear e0 e1;obtain⟨HB,HG,e0,e1⟩:=kG_ HB HG hb1;clear hb1;go_wp2_with fail
 refine(LargestClique_v HG.gv).mono ?_;rintro e w2 ⟨rfl,hb2⟩;clear e0 e1;obtain⟨HB,HG,e0,e1⟩:=kG_ HB HG hb2;clear hb2;go_wp2_with fail
 refine(CountSet_v (lqN r m) hl _).mono ?_;rintro e w3 ⟨rfl,hb3⟩;clear e0 e1;obtain⟨HB,HG,e0,e1⟩:=kG_ HB HG hb3;clear hb3;go_wp2;go_ret;exact⟨rfl,HB.below⟩
set_option maxRecDepth 100000 in
theorem ChromaticNumber_v {w:World} (h:GV w A m c r):
 Calls Tryz.prog 253 #[.agg #[.int .i64 m,.slice A m c]] w fun e w'=>e=.returned (.int .i64 (chN r m:Nat))/\Below w.heap.size w w':=by
 have hn7:=h.vg.n7;have hn1:=h.vg.n1;obtain⟨hcm,hsome,hmin⟩:=chN_spec (r:=r) hn1;have hpos:=chN_pos (r:=r) (m:=m);have HS:=hh_ hsome;have HM:=hh_ hmin;obtain⟨K,hK⟩: ∃K,K=chN r m:=⟨_,rfl⟩;rw[<-hK] at hcm HS HM hpos ⊢;clear hsome hmin hK;obtain⟨W,hW,HB,HG⟩:=gbW h;have HW:=hh_ hW;clear hW h;obtain⟨e0,e1⟩:=gx_ HG;have HR0:Hid (From W W):=From.refl W;go_enter Tryz.func253,Tryz.ntmps253;go_wp2_with fail
 rw[<-HW.out];go_wp2;go_loopw [3] (fun i wr=> ∃k:Nat,1<=k/\k<=K/\i=.int .i64 k/\Hid (From W wr)) (fun i _=>K-(intOf i).toNat);case atStart=>exact⟨1,nr_,hpos,rfl,HR0⟩
 case round=>
  clear HR0;obtain⟨k,hk1,hk,rfl,HR⟩:=hrel;clear e0 e1;replace HB:=hh_ (HB.keep HR.below);replace HG:=hh_ (HG.keep HR.below);obtain⟨e0,e1⟩:=gx_ HG;have i1:(k:Int)<=7:=by omega
  cases hs:(cOf r m k).isSome
  ·have hlt:k<K:=by
    by_cases e:k=K
    ·subst e;rw[HS.out] at hs;cases hs
    ·omega
   have Hs:=hh_ hs;clear hs;go_wp2_with fail
   refine(ColoringWith_v HG.gv hk1 (by omega)).mono ?_;rintro e w5 ⟨A5,n5,c5,rfl,_,hb5⟩;rw[Hs.out];clear e0 e1;replace HB:=hh_ (HB.keep hb5);replace HG:=hh_ (HG.keep hb5);replace HR:=hh_ (HR.keep hb5);clear hb5;obtain⟨e0,e1⟩:=gx_ HG;go_wp2;go_roundw;case rel=>exact⟨k+1,by omega,by omega,by go_num,HR⟩
   case measure=>simp[intOf]<;>omega
  ·have hKe:k=K:=by
    by_cases e:k<K
    ·rw[HM.out k hk1 e] at hs;cases hs
    ·omega
   have Hs:=hh_ hs;have HKe:=hh_ hKe;clear hs hKe;go_wp2_with fail
   refine(ColoringWith_v HG.gv hk1 (by omega)).mono ?_;rintro e w5 ⟨A5,n5,c5,rfl,_,hb5⟩;rw[Hs.out];clear e0 e1;replace HB:=hh_ (HB.keep hb5);replace HG:=hh_ (HG.keep hb5);replace HR:=hh_ (HR.keep hb5);clear hb5;obtain⟨e0,e1⟩:=gx_ HG;go_wp2;go_ret;exact⟨ret_int (by rw[HKe.out]),HB.below⟩
end
section
variable {A:Option Addr} {m c:Nat} {r:Nat->Nat}
theorem made_own (w:World) (n:Nat) (hn:n<=1048576): ∃W:World,(Instr.makeSlice 24 (.int .i64 (n:Int)) (.int .i64 (n:Int))).run Tryz.prog w=.ok (.slice (some ⟨w.heap.size,0,none⟩) n n) W/\Own W w.heap.size (w.heap.size+1) 3 1 (some ⟨w.heap.size,0,none⟩) n n (fun _=> .int .i64 0)/\Below w.heap.size w W:=by
 refine⟨_,run_make_row' (P:=Tryz.prog) 24 3 (.int .i64 0) 8 Tryz.underlying24 info_int rfl .i64 .i64 n (by omega) (by omega) w,?_,br_.alloc nr_ _⟩;obtain⟨cc,q1,q2,q3⟩:=World.rowIs_made w (.int .i64 0) n 3;exact .inr ⟨_,cc,rfl,nr_,Nat.lt_succ_self _,q1,nr_,by unfold maxLen;omega,by omega,fun j hj=>by rw[q3 j (by omega)]⟩
end
def bmK (P:Nat->Bool):Nat->Nat
 |0=>0
 |n+1=>if P n=true then bmK P n|||2^n else bmK P n
theorem bmK_bit {P:Nat->Bool} {i:Nat}: ∀n,(bmK P n).testBit i=(decide (i<n)&&P i):=by
 intro n;induction n with
 |zero=>simp[bmK]
 |succ n ih=>
  rw[bmK];by_cases h:P n=true
  ·rw[if_pos h,Nat.testBit_or,ih,Nat.testBit_two_pow];by_cases e:n=i
   ·subst e;simp[h]
   ·by_cases e2:i<n
    ·simp[e,e2,show i<n+1 by omega]
    ·simp[e,e2,show¬i<n+1 by omega]
  ·rw[if_neg h,ih];by_cases e:i=n
   ·subst e;simp[h]
   ·by_cases e2:i<n
    ·simp[e2,show i<n+1 by omega]
    ·simp[e2,show¬i<n+1 by omega]
theorem bmK_lt {P:Nat->Bool}: ∀n,bmK P n<2^n:=by
 intro n;induction n with
 |zero=>exact Nat.one_pos
 |succ n ih=>
  have h1:2^n<2^(n+1):=Nat.pow_lt_pow_right (by omega) (Nat.lt_succ_self _);rw[bmK];split
  ·exact Nat.or_lt_two_pow (by omega) h1
  ·omega
def stB (p:Nat->Nat->Bool) (b a j i:Nat):Bool:=(decide (i<j)&&p i j&&(decide (j<b)||decide (j=b/\i<a)))||(decide (j<i)&&p j i&&(decide (i<b)||decide (i=b/\j<a)))
def grS (p:Nat->Nat->Bool) (n b a j:Nat):Nat:=bmK (stB p b a j) n
theorem grS_lt {p:Nat->Nat->Bool} {n b a j:Nat}:grS p n b a j<2^n:=bmK_lt n
theorem grS_zero {p:Nat->Nat->Bool} {n j:Nat}:grS p n 0 0 j=0:=by
 apply Nat.eq_of_testBit_eq;intro i;unfold grS;rw[bmK_bit];simp[stB]
theorem grS_next {p:Nat->Nat->Bool} {n b j:Nat}:grS p n b b j=grS p n (b+1) 0 j:=by
 apply Nat.eq_of_testBit_eq;intro i;unfold grS;rw[bmK_bit,bmK_bit];congr 1;unfold stB;by_cases h1:i<j
 ·have h2: ¬j<i:=by omega
  have e:(decide (j<b)||decide (j=b/\i<b))=(decide (j<b+1)||decide (j=b+1/\i<0)):=by
   rw[Bool.eq_iff_iff];simp;omega
  rw[e,decide_eq_false h2];simp
 ·by_cases h2:j<i
  ·have e:(decide (i<b)||decide (i=b/\j<b))=(decide (i<b+1)||decide (i=b+1/\j<0)):=by
    rw[Bool.eq_iff_iff];simp;omega
   rw[e,decide_eq_false h1];simp
  ·rw[decide_eq_false h1,decide_eq_false h2];simp
theorem grS_no {p:Nat->Nat->Bool} {n b a j:Nat} (hp:p a b=false):grS p n b (a+1) j=grS p n b a j:=by
 apply Nat.eq_of_testBit_eq;intro i;unfold grS;rw[bmK_bit,bmK_bit];congr 1;unfold stB;by_cases h1:i=a/\j=b
 ·obtain⟨rfl,rfl⟩:=h1;simp only[hp,Bool.and_false,Bool.false_and,Bool.false_or];by_cases h3:j<i
  ·have h4: ¬i=j:=by omega
   simp[h4]
  ·simp[h3]
 ·by_cases h2:j=a/\i=b
  ·obtain⟨rfl,rfl⟩:=h2;simp only[hp,Bool.and_false,Bool.false_and,Bool.or_false];by_cases h3:i<j
   ·have h4: ¬j=i:=by omega
    simp[h4]
   ·simp[h3]
  ·have e1:decide (j=b/\i<a+1)=decide (j=b/\i<a):=by rw[decide_eq_decide];omega
   have e2:decide (i=b/\j<a+1)=decide (i=b/\j<a):=by rw[decide_eq_decide];omega
   rw[e1,e2]
theorem grS_yes {p:Nat->Nat->Bool} {n b a j:Nat} (hp:p a b=true) (hab:a<b) (hb:b<n):grS p n b (a+1) j=addN (grS p n b a) a b j:=by
 apply Nat.eq_of_testBit_eq;intro i;have hx: ∀t k:Nat,(t^^^2^k).testBit i=(t.testBit i^^decide (k=i)):=fun t k=>by rw[Nat.testBit_xor,Nat.testBit_two_pow]
 unfold addN;by_cases h1:j=a
 ·subst h1;rw[if_pos rfl,hx];unfold grS;rw[bmK_bit,bmK_bit];by_cases h2:b=i
  ·subst h2;simp[stB,hp,hab,hb,show¬b<j by omega]
  ·have:stB p b (j+1) j i=stB p b j j i:=by
    unfold stB;have e1:decide (j=b/\i<j+1)=decide (j=b/\i<j):=by rw[decide_eq_decide];omega
    have e2:decide (i=b/\j<j+1)=decide (i=b/\j<j):=by rw[decide_eq_decide];omega
    rw[e1,e2]
   rw[this];simp[h2]
 ·rw[if_neg h1];by_cases h2:j=b
  ·subst h2;rw[if_pos rfl,hx];unfold grS;rw[bmK_bit,bmK_bit];by_cases h3:a=i
   ·subst h3;simp[stB,hp,hab,show a<n by omega,show¬j<a by omega]
   ·have:stB p j (a+1) j i=stB p j a j i:=by
     unfold stB;have e1:decide (j=j/\i<a+1)=decide (j=j/\i<a):=by rw[decide_eq_decide];omega
     have e2:decide (i=j/\j<a+1)=decide (i=j/\j<a):=by rw[decide_eq_decide];omega
     rw[e1,e2]
    rw[this];simp[h3]
  ·rw[if_neg h2];unfold grS;rw[bmK_bit,bmK_bit];congr 1;unfold stB;have e1:decide (j=b/\i<a+1)=decide (j=b/\i<a):=by rw[decide_eq_decide];omega
   have e2:decide (i=b/\j<a+1)=decide (i=b/\j<a):=by rw[decide_eq_decide];omega
   rw[e1,e2]
end Go.Proofs.YtfabbohijhjpcaaGreatDoor
