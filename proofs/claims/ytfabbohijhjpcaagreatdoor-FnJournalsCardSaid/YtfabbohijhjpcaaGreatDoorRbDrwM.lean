/- Lemmas. -/
import Derived.Test.YtfabbohijhjpcaaGreatDoorRbDrwD
/-
-/
namespace Go.Proofs.YtfabbohijhjpcaaGreatDoor
open Go.RowKit
set_option maxHeartbeats 3200000
def l5K (r:Nat->Nat) (l:List Nat) (v k:Nat):Nat:=labN r (l.take k) v*2^(k-l.length)
theorem l5K_yes {r:Nat->Nat} {l:List Nat} {v k:Nat} (h:k<l.length):l5K r l v (k+1)=l5K r l v k*2+(if (r v).testBit l[k]=true then 1 else 0):=by
 unfold l5K;rw[List.take_succ_eq_append_getElem h,labN_one];have e1:k+1-l.length=0:=by omega
 have e2:k-l.length=0:=by omega
 rw[e1,e2];simp;omega
theorem l5K_no {r:Nat->Nat} {l:List Nat} {v k:Nat} (h:l.length<=k):l5K r l v (k+1)=l5K r l v k*2:=by
 unfold l5K;have e1:k+1-l.length=(k-l.length)+1:=by omega
 rw[e1,List.take_of_length_le (by omega),List.take_of_length_le h,Nat.pow_succ,Nat.mul_assoc]
theorem l5K_lt (r:Nat->Nat) (l:List Nat) (v:Nat): ∀k,l5K r l v k<2^k:=by
 intro k;unfold l5K;have h:=labN_lt r v (l.take k);by_cases hk:k<=l.length
 ·have e2:k-l.length=0:=by omega
  rw[e2,Nat.pow_zero,Nat.mul_one];rw[List.length_take,Nat.min_eq_left hk] at h;exact h
 ·rw[List.length_take,Nat.min_eq_right (by omega)] at h;have e:2^k=2^l.length*2^(k-l.length):=by rw[<-Nat.pow_add];congr 1;omega
  rw[e];exact Nat.mul_lt_mul_of_lt_of_le h nr_ (Nat.two_pow_pos _)
theorem l5K_less {r:Nat->Nat} {l:List Nat} {v b:Nat} (hl:l.length<=7):(l5K r l b 7<l5K r l v 7)↔labN r l b<labN r l v:=by
 unfold l5K;rw[List.take_of_length_le hl];exact Nat.mul_lt_mul_right (Nat.two_pow_pos _)
section
variable {A:Option Addr} {m c:Nat} {r:Nat->Nat}
set_option maxRecDepth 100000 in
theorem l5Label_v {w:World} (h:GV w A m c r) {Al:Option Addr} {cl:Nat} {l:List Nat} (hl:LN w Al cl l) (_hlm:l.length<=m) (hin: ∀u∈l,u<m) {v:Nat} (hv:v<m):
 Calls Tryz.prog 301 #[.agg #[.int .i64 m,.slice A m c],.slice Al l.length cl,.int .i64 v] w (fun e w'=>e=.returned (.int .i64 (l5K r l v 7:Nat))/\Below w.heap.size w w'):=by
 have hn7:=h.vg.n7;have HL:=hh_ hl;have Hin:=hh_ hin;have HV:=hh_ h.vg;obtain⟨W,hW,HB,HG⟩:=gbW h;have HL:Hid (LN W Al cl l):=hl.keep HB.below;have HW:=hh_ hW;clear hW h hl hin;go_enter Tryz.func301,Tryz.ntmps301;go_wp2;rw[<-HW.out];clear HW;go_loopw [7,8] (fun a i wr=> ∃k:Nat,k<=7/\i=.int .i64 k/\a=.int .i64 (l5K r l v k:Nat)/\Hid (From W wr)) (fun _ i _=>7-(intOf i).toNat);case atStart=>exact⟨0,Nat.zero_le _,rfl,(by unfold l5K;simp[labN]),From.refl _⟩
 case round=>
  obtain⟨k,hk,rfl,rfl,HR⟩:=hrel;have HBr:=hh_ (HB.keep HR.below);have hlb:=l5K_lt r l v k;have hp:=two_pow_le (n:=k) (by omega);obtain⟨a,ha⟩: ∃a,a=l5K r l v k:=⟨_,rfl⟩;have Ha:=hh_ ha;rw[<-ha] at hlb ⊢;clear ha;by_cases hlt:k<7
  ·have i1:(k:Int)<7:=by omega
   have HGr:=hh_ (HG.keep HR.below);have HLr:=hh_ (HL.keep HR.below);by_cases hkl:k<l.length
   ·obtain⟨b2,o2,rfl⟩:=HLr.addr (by omega);have p0:=HLr.at hkl;have hum:=Hin.out _ (List.getElem_mem hkl);have hst:=l5K_yes (r:=r) (v:=v) hkl;have hbit:(r l[k]).testBit v=(r v).testBit l[k]:=HV.sym _ _ hum hv;obtain⟨t,ht⟩: ∃t,t=(r v).testBit l[k]:=⟨_,rfl⟩;rw[<-ht] at hst hbit;obtain⟨u,hu⟩: ∃u,u=l[k]:=⟨_,rfl⟩;rw[<-hu] at p0 hum hbit;rw[<-Ha.out] at hst;have KE:Hid (∀z:World,Below wr.heap.size wr z->Calls Tryz.prog 45 #[.agg #[.int .i64 m,.slice A m c],.int .i64 u,.int .i64 v] z fun e w'=>e=.returned (.bool t)/\Below z.heap.size z w'):=fun z hz=>by
     have:=l2Edge_v (HGr.gv.keep hz) hum hv;rwa [hbit] at this
    have hd:decide ((k:Int)<l.length)=true:=by simp;omega
    clear ht hu hbit;have e0:=HGr.c0;have e1:=HGr.c1;go_wp2;obtain⟨HSC,HZ0,HS1⟩:=hsc3 e0 e1 p0;have KR1:Hid (∀z:World,Below wr.heap.size wr z->_):=fun z hz=>KE.out z hz
    go_region_held3 (fun z=>Below wr.heap.size wr z/\z.cell? ⟨w.heap.size,0,none⟩=some (.int .i64 m)/\z.cell? ⟨w.heap.size,1,none⟩=some (.slice A m c)/\z.cell? ⟨b2,o2+k,none⟩=some (.int .i64 u))
     (first|exact HS1.out|assumption|exact HSC.out _ hz1|fail)
     (first|(go_at_call 45;((with_reducible refine(KR1.out _ HZ0.out).mono ?_);rintro e w1 ⟨rfl,hb1⟩;have hz1:=bl_trans HZ0.out hb1)))
    clear e0 e1;replace HBr:=hh_ (HBr.keep hz1);replace HGr:=hh_ (HGr.keep hz1);replace HR:=hh_ (HR.keep hz1);clear hb1 hz1 HSC HZ0 HS1 KR1;have e0:=HGr.c0;have e1:=HGr.c1;cases t
    ·simp only[Bool.false_eq_true,if_false] at hst;have Hst:Hid ((a:Int)*2=(l5K r l v (k+1):Nat)):=by show _=_;omega
     clear hst;go_wp2;go_roundw;case rel=>exact⟨k+1,by omega,by go_num,by rw[<-Hst.out],HR⟩
     case measure=>simp[intOf];omega
    ·simp only[if_true] at hst;have Hst:Hid ((a:Int)*2+1=(l5K r l v (k+1):Nat)):=by show _=_;omega
     clear hst;go_wp2;go_roundw;case rel=>exact⟨k+1,by omega,by go_num,by rw[<-Hst.out],HR⟩
     case measure=>simp[intOf];omega
   ·have hst:=l5K_no (r:=r) (v:=v) (l:=l) (k:=k) (by omega);rw[<-Ha.out] at hst;have Hst:Hid ((a:Int)*2=(l5K r l v (k+1):Nat)):=by show _=_;omega
    have hd:decide ((k:Int)<l.length)=false:=by simp;omega
    clear hst;go_wp2;go_quiet (fail)
    have HR3:Hid (From W (wr.drewN nq)):=HR.drewN nq;go_wp2;go_roundw;case rel=>exact⟨k+1,by omega,by go_num,by rw[<-Hst.out],HR3⟩
    case measure=>simp[intOf];omega
  ·have hk7:k=7:=by omega
   have i1:(7:Int)<=k:=by omega
   have Hf:Hid (a=l5K r l v 7):=by rw[Ha.out,hk7];exact rfl
   clear hk7;go_wp2;go_ret;exact⟨ret_int (by rw[Hf.out]),HBr.below⟩
set_option maxRecDepth 100000 in
theorem LexOrder_sv {w:World} (h:GV w A m c r) {s:Nat} (hs:s<m):
 Calls Tryz.prog 228 #[.agg #[.int .i64 m,.slice A m c],.int .i64 s] w fun e w'=> ∃A' c',e=.returned (.tuple #[.slice A' (lexN r m s).length c',.bool true])/\ON w.heap.size w' A' c' (lexN r m s)/\Below w.heap.size w w':=by
 have hn1:=h.vg.n1;have hn7:=h.vg.n7;have p1:=pow_shl s (by omega);obtain⟨W,hW,HB,HG⟩:=gbW h;have HW:=hh_ hW;clear hW h;obtain⟨e0,e1⟩:=gx_ HG;go_enter Tryz.func228,Tryz.ntmps228;go_wp2_with fail
 rw[<-HW.out];refine(IsGraph_sv HG.gv).mono ?_;rintro e w1 ⟨rfl,hb1⟩;clear HW;clear e0 e1;obtain⟨HB,HG,e0,e1⟩:=kG_ HB HG hb1;clear hb1;obtain⟨W2,hW2⟩: ∃W,W=w1.alloc (Obj.cells #[.int .i64 (s:Int)] 3):=⟨_,rfl⟩;have H2:Hid (From w1 W2):=by rw[hW2];exact From.alloc _ _
 have z1:=HB.below.size;have HO0:Hid (ON w1.heap.size W2 (some ⟨w1.heap.size,0,none⟩) 1 (grN (labN r) m s 0)):=by
  rw[hW2];exact one_on w1 s
 have HW2:=hh_ hW2;have i1:(0:Int)<=s:=by omega
 have i2:(s:Int)<m:=by omega
 have hd1:decide ((s:Int)<0)=false:=by simp
 have hd2:decide (m<=s)=false:=by simp;omega
 have hpc:=pow_cast s;have Hu0:Hid ((2:Int)^s=(stN (ci (grN (labN r) m s 0)):Nat)):=by show _=_;simp[grN,ci,stN]
 clear hW2;go_wp2;rw[<-HW2.out];clear HW2;go_loopw [6,7] (fun l us wr=> ∃(k:Nat) (A':Option Addr) (c':Nat),k<m/\l=.slice A' (grN (labN r) m s k).length c'/\us=.int .i64 (stN (ci (grN (labN r) m s k)):Nat)/\Hid (ON w1.heap.size wr A' c' (grN (labN r) m s k))/\Hid (From w1 wr)) (fun l _ _=>match l with| .slice _ n _=>m-n|_=>0);case atStart=>exact⟨0,_,1,by omega,rfl,by rw[Hu0.out],HO0,H2⟩
 case round=>
  clear HO0 H2 Hu0 p1 hpc i1 i2 hd1 hd2;obtain⟨k,A',c',hk,rfl,rfl,HO,HR⟩:=hrel;have hlen:=grN_len (labN r) m s k;by_cases hlt:k+1<m
  ·have i1:((grN (labN r) m s k).length:Int)<(m:Int):=by omega
   have HBo:=hh_ (HB.keep HR.below);have HGo:=hh_ (HG.keep HR.below);have e0:=HGo.c0;obtain⟨b,hb,hbm,hbn,hgr⟩:=grN_step (f:=labN r) (s:=s) hlt;obtain⟨hnd,hin⟩:=grN_fine (f:=labN r) hs k (by omega);have Hb:=hh_ hb;have Hgr:=hh_ hgr;have Hin:=hh_ hin;have Hlen:=hh_ hlen;have Hbn:=hh_ hbn;obtain⟨L,hL⟩: ∃L,L=grN (labN r) m s k:=⟨_,rfl⟩;rw[<-hL] at Hb Hgr Hin Hlen HO i1 Hbn ⊢;have hl1:L.length<=k+1:=by rw[Hlen.out];exact nr_
   have hl2:k+1<=L.length:=by rw[Hlen.out];exact nr_
   have hus:=stN_ci_lt Hin.out;have h128:=two_pow_le hn7;clear hb hgr hin hlen hnd hbn hL;go_wp2;go_loopw [8,9] (fun a i wz=> ∃v:Nat,v<=m/\i=.int .i64 v/\a=.int .i64 (bsI (bestK (labN r L) (fun v=> !decide (v∈L)) v))/\Hid (From wr wz)) (fun _ i _=>m-(intOf i).toNat);case atStart=>exact⟨0,Nat.zero_le _,rfl,rfl,From.refl _⟩
   case round=>
    obtain⟨v,hv,rfl,rfl,HZ⟩:=hrel;have HGz:=hh_ (HGo.keep HZ.below);by_cases hvm:v<m
    ·have i2:(v:Int)<m:=by omega
     obtain⟨o,ho⟩: ∃o,o=bestK (labN r L) (fun v=> !decide (v∈L)) v:=⟨_,rfl⟩;rw[<-ho];have Ho:=hh_ ho;clear ho;have E:=and_one_i64' (stN (ci L):Int) v (by omega) (by omega);rw[Int.toNat_natCast,stN_ci_bit] at E;by_cases hin:v∈L
     ·have Hno:Hid (bestK (labN r L) (fun v=> !decide (v∈L)) (v+1)=o):=by show _=_;rw[bestK_no (by simpa using hin),Ho.out]
      rw[decide_eq_true hin] at E;obtain⟨y,hy⟩: ∃y,y=bsI o:=⟨_,rfl⟩;rw[<-hy];have Hy:=hh_ hy;clear hin hy;have e0:=HGz.c0;go_wp2;go_quiet (fail)
      have HZ3:=hh_ (HZ.drewN nq);go_wp2;go_roundw;case rel=>exact⟨v+1,by omega,by go_num,by rw[Hno.out,Hy.out],HZ3⟩
      case measure=>simp[intOf];omega
     ·rw[decide_eq_false hin] at E;cases o with
      |none=>
       have Hn:Hid (bestK (labN r L) (fun v=> !decide (v∈L)) (v+1)=some v):=bestK_first (by simpa using hin) Ho.symm;have hq2:bsI none= -1:=rfl;rw[hq2];clear hin hq2;have e0:=HGz.c0;go_wp2;go_quiet (fail)
       have HZ3:=hh_ (HZ.drewN nq);go_wp2;go_roundw;case rel=>exact⟨v+1,by omega,by go_num,by rw[Hn.out];rfl,HZ3⟩
       case measure=>simp[intOf];omega
      |some b2=>
       have hb2m:=(bestK_in Ho.symm).1;have hq2:bsI (some b2)=(b2:Int):=rfl;rw[hq2];have hcmp:=l5K_less (r:=r) (l:=L) (v:=v) (b:=b2) (by omega);have hy7:=l5K_lt r L v 7;have ht7:=l5K_lt r L b2 7;have HOz:=hh_ (HO.keep HZ.below);have KY:Hid (∀z:World,Below wr.heap.size wr z->Calls Tryz.prog 301 #[.agg #[.int .i64 m,.slice A m c],.slice A' L.length c',.int .i64 v] z fun e w'=>e=.returned (.int .i64 (l5K r L v 7:Nat))/\Below z.heap.size z w'):=fun z hz=>l5Label_v (HGz.gv.keep hz) (HOz.keep hz).ln (by omega) Hin.out hvm
       have KT:Hid (∀z:World,Below wr.heap.size wr z->Calls Tryz.prog 301 #[.agg #[.int .i64 m,.slice A m c],.slice A' L.length c',.int .i64 b2] z fun e w'=>e=.returned (.int .i64 (l5K r L b2 7:Nat))/\Below z.heap.size z w'):=fun z hz=>l5Label_v (HGz.gv.keep hz) (HOz.keep hz).ln (by omega) Hin.out (by omega)
       obtain⟨y,hy⟩: ∃y,y=l5K r L v 7:=⟨_,rfl⟩;obtain⟨t,ht⟩: ∃t,t=l5K r L b2 7:=⟨_,rfl⟩;rw[<-hy] at KY hcmp hy7;rw[<-ht] at KT hcmp ht7;have Hcmp:=hh_ hcmp;have i3:(0:Int)<=b2:=by omega
       have i4:decide ((b2:Int)<0)=false:=by simp
       clear hq2 hy ht hcmp;have e0:=HGz.c0;have e1:=HGz.c1;go_wp2;obtain⟨HSC,HZ0,HS1⟩:=hsc2 e0 e1;have KR1:Hid (∀z:World,Below wr.heap.size wr z->_):=fun z hz=>KY.out z hz
       have KR2:Hid (∀z:World,Below wr.heap.size wr z->_):=fun z hz=>KT.out z hz
       go_region_held3 (fun z=>Below wr.heap.size wr z/\z.cell? ⟨w.heap.size,0,none⟩=some (.int .i64 m)/\z.cell? ⟨w.heap.size,1,none⟩=some (.slice A m c))
        (first|exact HS1.out|assumption|exact HSC.out _ hz3|exact HSC.out _ hz2|fail)
        (first|(go_at_call 301;((with_reducible refine(KR1.out _ HZ0.out).mono ?_);rintro e w2 ⟨rfl,hb2⟩;have hz2:=bl_trans HZ0.out hb2))|(go_at_call 301;((with_reducible refine(KR2.out _ hz2).mono ?_);rintro e w3 ⟨rfl,hb3⟩;have hz3:=bl_trans hz2 hb3)))
       clear e0 e1;replace HGz:=hh_ (HGz.keep hz3);replace HZ:=hh_ (HZ.keep hz3);clear hb2 hz2 hb3 hz3 HSC HZ0 HS1 KR1 KR2;have e0:=HGz.c0;have e1:=HGz.c1;by_cases hf:t<y
       ·have Hn:Hid (bestK (labN r L) (fun v=> !decide (v∈L)) (v+1)=some v):=bestK_more (by simpa using hin) Ho.symm (Hcmp.out.1 hf);have i5:(t:Int)<y:=by omega
        clear hin;go_wp2;go_roundw;case rel=>exact⟨v+1,by omega,by go_num,by rw[Hn.out];rfl,HZ⟩
        case measure=>simp[intOf];omega
       ·have Hn:Hid (bestK (labN r L) (fun v=> !decide (v∈L)) (v+1)=some b2):=bestK_less Ho.symm (fun h=>hf (Hcmp.out.2 h));have i5:(y:Int)<=t:=by omega
        clear hin;go_wp2;go_roundw;case rel=>exact⟨v+1,by omega,by go_num,by rw[Hn.out];rfl,HZ⟩
        case measure=>simp[intOf];omega
    ·have hvm':v=m:=by omega
     have i2:(m:Int)<=v:=by omega
     have HO3:=hh_ (HO.keep HZ.below);have HR3:Hid (From w1 wr):=HR.keep HZ.below;have zz:=HR3.below.size;have hq:bsI (bestK (labN r L) (fun v=> !decide (v∈L)) v)=(b:Int):=by rw[hvm',Hb.out];rfl
     rw[hq];have e0:=HGz.c0;have p1:=pow_shl b (by omega);have hb128:2^b<128:=Nat.lt_of_lt_of_le (Nat.pow_lt_pow_right (by omega) hbm) h128;have hpc:=pow_cast b;have hb0:(0:Int)<=2^b:=by rw[<-hpc];exact Int.natCast_nonneg _
     have Hu:Hid ((stN (ci L):Int)+2^b=(stN (ci (L++ [b])):Nat)):=by show _=_;rw[stN_ci_one Hbn.out];simp
     clear hq hvm' HZ;go_wp2_with (first|(at_builtin;(refine wpList_pushN wr rfl _ _ rfl w1.heap.size wr.heap.size A' c' L HO3.own (by omega) b rfl 1 wr.heap.size rfl rfl (by omega) ?_;intro g cap w4 hO4 hb4)))
     have H4:Hid (ON w1.heap.size w4 (some ⟨g,0,none⟩) cap (L++ [b])):=⟨by rw[List.length_append];exact hO4⟩;have H5:Hid (From w1 w4):=⟨HR3.below.trans hb4⟩;clear hO4 hb4 HO3 HR3;go_wp2;go_roundw;case rel=>exact⟨k+1,some ⟨g,0,none⟩,cap,by omega,by rw[Hgr.out,List.length_append];rfl,by rw[Hgr.out,<-Hu.out],by rw[Hgr.out];exact H4,H5⟩
     case measure=>simp;omega
  ·have hkm:k=m-1:=by omega
   have i1:(m:Int)<=((grN (labN r) m s k).length:Int):=by omega
   have HBr:=hh_ (HB.keep HR.below);have HGr:=hh_ (HG.keep HR.below);have e0:=HGr.c0;subst hkm;go_wp2;go_ret2;exact⟨A',c',rfl,HO.mono z1,HBr.below⟩
end
theorem LexOrder_s (sz:Int) (A:Option Addr) (m c:Nat) (x:Nat->Int) (s:Int) (w:World) (h:GA w A m c x) (hm:m<=1048576):
 Calls Tryz.prog 228 #[.agg #[.int .i64 sz,.slice A m c],.int .i64 s] w fun e w'=> ∃A' c',e=.returned (.tuple #[.slice A' (lxL sz m x s).length c',.bool (lxB sz m x s)])/\ON w.heap.size w' A' c' (lxL sz m x s)/\Below w.heap.size w w':=by
 cases hb:lxB sz m x s
 ·rw[lxL_no hb];obtain⟨W,hW,HB,HK,HC⟩:=gaW sz h;have HW:=hh_ hW;clear hW h;cases ho:okB sz m x
  ·have Ho:=hh_ ho;clear ho hb;go_enter Tryz.func228,Tryz.ntmps228;obtain⟨e0,e1⟩:=gc_ HC;go_wp2_with fail
   rw[<-HW.out];refine(IsGraph_sany sz A m c x W W.heap.size HK.rd nr_ hm).mono ?_;rintro e w1 ⟨rfl,hb1⟩;clear HW;clear e0 e1;replace HB:=hh_ (HB.keep hb1);replace HC:=hh_ (HC.keep hb1);clear hb1;obtain⟨e0,e1⟩:=gc_ HC;rw[Ho.out];go_wp2;go_ret2;exact⟨_,0,rfl,(ON.nil _).mono HB.below.size,(HB.alloc_ _).below⟩
  ·have hs: ¬(0<=s/\s<sz):=fun hs=>by unfold lxB at hb;rw[ho,decide_eq_true hs] at hb;cases hb
   have Ho:=hh_ ho;clear ho hb;by_cases hs0:s<0
   ·clear hs;go_enter Tryz.func228,Tryz.ntmps228;obtain⟨e0,e1⟩:=gc_ HC;go_wp2_with fail
    rw[<-HW.out];refine(IsGraph_sany sz A m c x W W.heap.size HK.rd nr_ hm).mono ?_;rintro e w2 ⟨rfl,hb2⟩;clear HW;clear e0 e1;replace HB:=hh_ (HB.keep hb2);replace HC:=hh_ (HC.keep hb2);clear hb2;obtain⟨e0,e1⟩:=gc_ HC;rw[Ho.out];go_wp2;go_ret2;exact⟨_,0,rfl,(ON.nil _).mono HB.below.size,(HB.alloc_ _).below⟩
   ·have i1:0<=s:=by omega
    have i2:sz<=s:=by omega
    clear hs hs0;go_enter Tryz.func228,Tryz.ntmps228;obtain⟨e0,e1⟩:=gc_ HC;go_wp2_with fail
    rw[<-HW.out];refine(IsGraph_sany sz A m c x W W.heap.size HK.rd nr_ hm).mono ?_;rintro e w3 ⟨rfl,hb3⟩;clear HW;clear e0 e1;replace HB:=hh_ (HB.keep hb3);replace HC:=hh_ (HC.keep hb3);clear hb3;obtain⟨e0,e1⟩:=gc_ HC;rw[Ho.out];go_wp2;go_ret2;exact⟨_,0,rfl,(ON.nil _).mono HB.below.size,(HB.alloc_ _).below⟩
 ·rw[lxL_yes hb];unfold lxB at hb;rw[Bool.and_eq_true,decide_eq_true_eq] at hb;obtain⟨⟨s0,s1⟩,ho⟩:=hb;obtain⟨_,es,vg0,_⟩:=okB_ok' ho;subst es;obtain⟨v,rfl⟩:=Int.eq_ofNat_of_zero_le s0;rw[Int.toNat_natCast];exact LexOrder_sv (h.gv ho) (by omega)
set_option maxHeartbeats 6400000
theorem vz_map {m:Nat} {l:List Nat} (hn:l.Nodup) (hlt: ∀v∈l,v<m):VZ m (l.map fun v:Nat=>(v:Int)):=by
 refine⟨?_,fun v hv=> ?_⟩
 ·rw[List.nodup_iff_pairwise_ne] at hn ⊢;rw[List.pairwise_map];exact hn.imp fun h e=>h (by omega)
 ·obtain⟨u,hu,rfl⟩:=List.mem_map.1 hv;have:=hlt u hu;omega
section
variable {w z z':World} {q nb cb Q m d:Nat} {A B:Option Addr} {sz:Int} {x:Nat->Int}
def dgR (w:World) (q:Nat) (A:Option Addr) (nb cb:Nat) (e:Ending) (w':World):Prop:=
 ∃(sz:Int) (B:Option Addr) (m d:Nat) (x:Nat->Int),e=.returned (.agg #[.int .i64 sz,.slice B m d])/\m<=7/\Own w' w.heap.size w'.heap.size 3 1 B m d (fun j=> .int .i64 (x j))/\Dr w q A nb cb w'
theorem dgQ.r {e:Ending} (h:dgQ w q A nb cb e z):dgR w q A nb cb e z:=by
 obtain⟨sz,B,m,d,x,he,_,h7,ho,hd⟩:=h;exact⟨sz,B,m,d,x,he,h7,ho,hd⟩
theorem dgR.fin0 {lo:Nat} (hn7:m<=7) (hc:Cu z q A nb cb) (hfr:Fr q (q+1) w z) (h1:q<w.heap.size) (ho:Own z lo z.heap.size 3 1 B m d (fun j=> .int .i64 (x j))) (hl:w.heap.size<lo):dgR w q A nb cb (.returned (.agg #[.int .i64 sz,.slice B m d])) ((z.setCell ⟨w.heap.size,0,none⟩ (.int .i64 sz)).setCell ⟨w.heap.size,1,none⟩ (.slice B m d)):=by
 have hf:=fr2 z w.heap.size (.int .i64 sz) (.slice B m d);exact⟨sz,B,m,d,x,rfl,hn7,(ho.keep hf (.inr (by omega))).mono (by omega) hf.size,hc.keepF hf (by omega),hfr.past hf nr_⟩
structure DG (w z:World) (q:Nat) (A:Option Addr) (nb cb Q:Nat) (sz:Int) (B:Option Addr) (m d:Nat) (x:Nat->Int):Prop where
 dd:D0 w z q A nb cb
 g:GC z Q sz B m d
 o:Own z (w.heap.size+1) Q 3 1 B m d (fun j=> .int .i64 (x j))
 l:w.heap.size<Q
theorem DG.keep (h:DG w z q A nb cb Q sz B m d x) (hb:Below z.heap.size z z'):DG w z' q A nb cb Q sz B m d x:=
 ⟨h.dd.keep hb,h.g.keep hb,h.o.keepB hb (Nat.le_of_lt h.g.lt),h.l⟩
theorem DG.draw (h:DG w z q A nb cb Q sz B m d x) (hd:Dr z q A nb cb z'):DG w z' q A nb cb Q sz B m d x:=by
 have h1:=h.dd.l1;have h2:=h.l;exact⟨h.dd.draw hd,h.g.keepF hd.fr (.inr (by omega)),h.o.keep hd.fr (.inr (by omega)),h2⟩
theorem DG.new {lo:Nat} (h:D0 w z q A nb cb) (ho:Own z lo z.heap.size 3 1 B m d (fun j=> .int .i64 (x j))) (hl:w.heap.size<lo):DG w (z.alloc (Obj.cells #[.int .i64 sz,.slice B m d] 26)) q A nb cb z.heap.size sz B m d x:=
 ⟨h.keep (br_.alloc nr_ _),GC.new _ _ _ _ _,(ho.alloc _).mono hl nr_,h.lt⟩
theorem DG.ga (h:DG w z q A nb cb Q sz B m d x):GA z B m d x:=⟨h.o.rd.keep br_ (Nat.le_of_lt h.g.lt)⟩
theorem DG.fin (h:DG w z q A nb cb Q sz B m d x) (h7:m<=7):dgR w q A nb cb (.returned (.agg #[.int .i64 sz,.slice B m d])) ((z.setCell ⟨w.heap.size,0,none⟩ (.int .i64 sz)).setCell ⟨w.heap.size,1,none⟩ (.slice B m d)):=
 dgR.fin0 h7 h.dd.cu h.dd.fr h.dd.l1 (h.o.mono nr_ (Nat.le_of_lt h.g.lt)) (Nat.lt_succ_self _)
end
section
variable {w:World} {q nb cb:Nat} {A:Option Addr}
set_option maxRecDepth 100000 in
theorem l8Chordal_s (hc:Cu w q A nb cb):Calls Tryz.prog 156 #[.pointer (some ⟨q,0,none⟩)] w (dgR w q A nb cb):=by
 obtain⟨W,hW⟩: ∃W,W=(w.alloc (Obj.cells #[.int .i64 0,.slice none 0 0] 26)):=⟨_,rfl⟩;have HD:Hid (D0 w W q A nb cb):=by rw[hW];exact D0.new hc
 have HW:=hh_ hW;have KD:=hh_ (l2Any_s HD.cu);have hlW:=HD.lt;clear hW hc;go_enter Tryz.func156,Tryz.ntmps156;go_wp2_with fail
 rw[<-HW.out];clear HW;refine KD.mono ?_;rintro e w1 ⟨sz,B,m,d,x,rfl,hm1,hm7,ho,hd⟩;replace HD:=hh_ (HD.draw hd);clear hd KD;obtain⟨W2,hW2⟩: ∃W2,W2=(w1.alloc (Obj.cells #[.int .i64 sz,.slice B m d] 26)):=⟨_,rfl⟩;have HG:Hid (DG w W2 q A nb cb w1.heap.size sz B m d x):=by rw[hW2];exact DG.new HD.out ho hlW
 have hl1:w.heap.size<w1.heap.size:=HD.lt;have HW2:=hh_ hW2;clear hW2 ho HD;go_wp2_with fail
 rw[<-HW2.out];clear HW2;have KB:Hid (∀z:World,(z.cell? ⟨w1.heap.size,0,none⟩=some (.int .i64 sz)/\z.cell? ⟨w1.heap.size,1,none⟩=some (.slice B m d)/\DG w z q A nb cb w1.heap.size sz B m d x)->Calls Tryz.prog 64 #[.pointer (some ⟨q,0,none⟩),.int .i64 2] z fun e w'=> ∃v:Nat,e=.returned (.int .i64 v)/\(w'.cell? ⟨w1.heap.size,0,none⟩=some (.int .i64 sz)/\w'.cell? ⟨w1.heap.size,1,none⟩=some (.slice B m d)/\DG w w' q A nb cb w1.heap.size sz B m d x)):=fun z ⟨_,_,h3⟩=>
  (l1Below_s (k:=2) h3.dd.cu (by omega) (by omega)).mono fun e w' ⟨v,he,_,hd⟩=>⟨v,he,(h3.draw hd).g.c0,(h3.draw hd).g.c1,h3.draw hd⟩
 have KL:Hid (∀(z:World) (v:Nat),(z.cell? ⟨w1.heap.size,0,none⟩=some (.int .i64 sz)/\z.cell? ⟨w1.heap.size,1,none⟩=some (.slice B m d)/\DG w z q A nb cb w1.heap.size sz B m d x)->Calls Tryz.prog 228 #[.agg #[.int .i64 sz,.slice B m d],.int .i64 v] z fun e w'=> ∃(A':Option Addr) (c':Nat),e=.returned (.tuple #[.slice A' (lxL sz m x v).length c',.bool (lxB sz m x v)])/\(w'.cell? ⟨w1.heap.size,0,none⟩=some (.int .i64 sz)/\w'.cell? ⟨w1.heap.size,1,none⟩=some (.slice B m d)/\DG w w' q A nb cb w1.heap.size sz B m d x)/\ON (q+1) w' A' c' (lxL sz m x v)):=fun z v ⟨_,_,h3⟩=>
  (LexOrder_s sz B m d x v z h3.ga (by omega)).mono fun e w' ⟨A',c',he,ho,hb⟩=>⟨A',c',he,⟨(h3.keep hb).g.c0,(h3.keep hb).g.c1,h3.keep hb⟩,ho.mono (Nat.succ_le_of_lt h3.dd.cu.lt)⟩
 have HG1:Hid (DG w W2.drew q A nb cb w1.heap.size sz B m d x):=HG.keep br_.drew;have g0:=HG1.g.c0;have g1:=HG1.g.c1;have g2:=HG1.out;have HS:Hid (W2.drew.cell? ⟨w1.heap.size,0,none⟩=some (.int .i64 sz)/\W2.drew.cell? ⟨w1.heap.size,1,none⟩=some (.slice B m d)/\DG w W2.drew q A nb cb w1.heap.size sz B m d x):=⟨g0,g1,g2⟩;clear g0 g1 g2 HG1 HG;go_region_held3 (fun z=>z.cell? ⟨w1.heap.size,0,none⟩=some (.int .i64 sz)/\z.cell? ⟨w1.heap.size,1,none⟩=some (.slice B m d)/\DG w z q A nb cb w1.heap.size sz B m d x)
  (first|exact HS.out|assumption|fail)
  (first
    |(go_at_call 64;((with_reducible refine(KB.out _ HS.out).mono ?_);rintro e w3 ⟨v,rfl,hS3⟩))
    |(go_at_call 228;((with_reducible refine(KL.out _ v (by assumption)).mono ?_);rintro e w4 ⟨A4,c4,rfl,hS4,hl4⟩))
    |fail)
 have HG:=hh_ hS4.2.2;have HL:=hh_ hl4;have HX:Hid (lxB sz m x v=true->sz=(m:Int)/\okB (m:Int) m x=true/\VZ m ((lxL sz m x v).map fun u:Nat=>(u:Int))/\(lxL sz m x v).length=m):=fun h=>by
  rw[lxL_yes h];unfold lxB at h;rw[Bool.and_eq_true,decide_eq_true_eq] at h;obtain⟨⟨_,h1⟩,h2⟩:=h;obtain⟨_,es,vg,_⟩:=okB_ok' h2;subst es;have hn1:=vg.n1;obtain⟨f1,f2⟩:=grN_fine (f:=labN (rw_ x)) (m:=m) (s:=((v:Nat):Int).toNat) (by omega) (m-1) (by omega);exact⟨rfl,h2,vz_map f1 f2,lexN_len hn1⟩
 obtain⟨Lx,hLx⟩: ∃L,L=lxL sz m x v:=⟨_,rfl⟩;obtain⟨ix,hix⟩: ∃b,b=lxB sz m x v:=⟨_,rfl⟩;rw[<-hLx,<-hix] at HX;rw[<-hLx] at HL;rw[<-hLx,<-hix];rename∀(a:Act) (w':World),_->_=>hK
 refine hK _ _ ?_;clear hK hS3 hS4 hl4 HS KB KL hLx hix;have hlq:q<w.heap.size:=HG.dd.l1;have j1:(w.heap.size=w1.heap.size)=False:=by simp;omega
 have j2:(w1.heap.size=w.heap.size)=False:=by simp;omega
 cases ix
 ·have HF:=hh_ (HG.fin hm7);have e0:=HG.g.c0;have e1:=HG.g.c1;have d0:=HG.dd.d.c0;have d1:=HG.dd.d.c1;have d2:=HG.dd.d.f0;have d3:=HG.dd.d.f1;go_wp2;exact bodyPost_ret (v:=.agg #[.int .i64 sz,.slice B m d]) (by simp[results,Tryz.results156,go_sem, *]) rfl HF.out
 ·obtain⟨rfl,hok,hV,hlen⟩:=HX.out rfl;have KB:=hh_ (l1Once_s (k:=4) HG.dd.cu (by omega) (by omega));have Hok:=hh_ hok;have HV:=hh_ hV;have Hlen:=hh_ hlen;clear hok hV hlen HX;go_wp2_with fail
  refine KB.mono ?_;rintro e w5 ⟨y,rfl,hd⟩;replace HG:=hh_ (HG.draw hd);have hL5:Hid (ON (q+1) w5 A4 c4 Lx):=⟨(HL.own.keep hd.fr (.inr nr_)).mono nr_ hd.fr.size⟩;clear hd KB HL;cases y
  ·have KF:Hid (Calls Tryz.prog 229 #[.agg #[.int .i64 (m:Int),.slice B m d],.slice A4 Lx.length c4] w5 fun e w'=> ∃A' c',e=.returned (.agg #[.int .i64 m,.slice A' m c'])/\OG w5.heap.size w' A' m c' (fl (rw_ x) (Lx.map fun u:Nat=>(u:Int)) (Lx.map fun u:Nat=>(u:Int)).length)/\Below w5.heap.size w5 w'):=by
    have h1:=hL5.ln.li;rw[Hlen.out] at h1 ⊢;exact l6Filled_s B m d (rw_ x) A4 c4 _ w5 (GV.of HG.ga.rd nr_ Hok.out) h1 HV (by rw[List.length_map];exact Hlen.out)
   obtain⟨r',hr'⟩: ∃r',r'=fl (rw_ x) (Lx.map fun u:Nat=>(u:Int)) (Lx.map fun u:Nat=>(u:Int)).length:=⟨_,rfl⟩;rw[<-hr'] at KF;have e0:=HG.g.c0;have e1:=HG.g.c1;have hl5:w.heap.size<w5.heap.size:=by have:=HG.g.lt;omega
   clear hr' hL5 HV Hlen Hok;go_wp2_with fail
   refine KF.mono ?_;rintro e w6 ⟨A6,c6,rfl,hO6,hb⟩;replace HG:=hh_ (HG.keep hb);have HF:=hh_ (dgR.fin0 (sz:=(m:Int)) hm7 HG.dd.cu HG.dd.fr HG.dd.l1 hO6.own hl5);clear e0 e1 hb hO6 KF;have d0:=HG.dd.d.c0;have d1:=HG.dd.d.c1;have d2:=HG.dd.d.f0;have d3:=HG.dd.d.f1;go_wp2;exact bodyPost_ret (v:=.agg #[.int .i64 (m:Int),.slice A6 m c6]) (by simp[results,Tryz.results156,go_sem, *]) rfl HF.out
  ·have HF:=hh_ (HG.fin hm7);have e0:=HG.g.c0;have e1:=HG.g.c1;have d0:=HG.dd.d.c0;have d1:=HG.dd.d.c1;have d2:=HG.dd.d.f0;have d3:=HG.dd.d.f1;go_wp2;exact bodyPost_ret (v:=.agg #[.int .i64 (m:Int),.slice B m d]) (by simp[results,Tryz.results156,go_sem, *]) rfl HF.out
end
section
variable {w wr w2:World} {q nb cb m d n' c':Nat} {A B A':Option Addr} {sz:Int} {f:Nat->Int}
theorem Fr.pastB {K:Nat} (h:Fr q (q+1) w wr) (k:Below K wr w2) (hK:w.heap.size<=K):Fr q (q+1) w w2:=
 ⟨k.os.trans h.os,k.tape.trans h.tape,k.output.trans h.output,Nat.le_trans h.size k.size,fun j hj ho=>(k.block j (Nat.lt_of_lt_of_le hj hK)).trans (h.block j hj ho)⟩
theorem GC.keepB {K:Nat} (h:GC w q sz A m d) (hb:Below K w w2) (hq:q<K):GC w2 q sz A m d:=⟨up hb h.c0 hq,up hb h.c1 hq,upf hb h.f0 hq,upf hb h.f1 hq⟩
def dlQ (w:World) (q:Nat) (A:Option Addr) (nb cb:Nat) (e:Ending) (w':World):Prop:=
 ∃(A':Option Addr) (n' c':Nat) (f:Nat->Int),e=.returned (.slice A' n' c')/\n'<=7/\Own w' w.heap.size w'.heap.size 3 1 A' n' c' (fun j=> .int .i64 (f j))/\Dr w q A nb cb w'
end
end Go.Proofs.YtfabbohijhjpcaaGreatDoor
