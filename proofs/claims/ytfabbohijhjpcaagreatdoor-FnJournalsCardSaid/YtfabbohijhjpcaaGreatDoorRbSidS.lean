/- Lemmas. -/
import Derived.Test.YtfabbohijhjpcaaGreatDoorRbSidI
namespace Go.Proofs.YtfabbohijhjpcaaGreatDoor
open Go.RowKit
set_option maxHeartbeats 6400000
set_option maxRecDepth 100000 in
theorem DistanceOf_sv {A:Option Addr} {m c:Nat} {r:Nat->Nat} {w:World} (h:GV w A m c r) {u v:Nat} (hu:u<m) (hv:v<m):
 Calls Tryz.prog 176 #[.agg #[.int .i64 m,.slice A m c],.int .i64 u,.int .i64 v] w fun e w'=>e=.returned (.int .i64 (dsI r m u v))/\Below w.heap.size w w':=by
 have hn7:=h.vg.n7;have h128:=two_pow_le hn7;have HV:=hh_ h.vg;have hum:=Nat.pow_lt_pow_right (a:=2) (by omega) hu;have hpos:=Nat.two_pow_pos m;have Hglt:Hid (∀k,gro r (2^m-1) (2^u) k<2^m):=fun k=>sub_lt (gro_sub (full_sub_of hu) k) (by omega)
 have Hst:Hid (∀k,gro r (2^m-1) (2^u) (k+1)=gro r (2^m-1) (2^u) k|||nb r (gro r (2^m-1) (2^u) k)):=fun k=>by
  show ((gro r (2^m-1) (2^u) k|||nb r (gro r (2^m-1) (2^u) k))&&&(2^m-1))=_;rw[Nat.and_two_pow_sub_one_eq_mod];exact Nat.mod_eq_of_lt (Nat.or_lt_two_pow (Hglt.out k) (nb_lt (fun v hv=>HV.lt v hv) (Hglt.out k) 7))
 have Hyes:Hid (∀n,n<m->(gro r (2^m-1) (2^u) n).testBit v=true->(∀j,j<n->(gro r (2^m-1) (2^u) j).testBit v=false)->dsI r m u v=n):=fun n hn h1 h2=>dsI_yes hn h1 h2
 have Hno:Hid ((∀j,j<m->(gro r (2^m-1) (2^u) j).testBit v=false)->dsI r m u v= -1):=fun h=>dsI_no h
 have Hg0:Hid (gro r (2^m-1) (2^u) 0=2^u):=rfl;obtain⟨G,hG⟩: ∃G,G=gro r (2^m-1) (2^u):=⟨_,rfl⟩;obtain⟨D,hD⟩: ∃D,D=dsI r m u v:=⟨_,rfl⟩;rw[<-hG] at Hglt Hst Hyes Hno Hg0;rw[<-hD] at Hyes Hno ⊢;have p1:=pow_shl u (by omega);have h2:((2^u:Nat):Int)=2^u:=by simp
 have Hgc:Hid (((G 0:Nat):Int)=2^u):=by show _=_;rw[Hg0.out,h2]
 have i1:(0:Int)<=u:=by omega
 have i2:(0:Int)<=v:=by omega
 have i3:(u:Int)<m:=by omega
 have i4:(v:Int)<m:=by omega
 have d1:decide (m<=u)=false:=decide_eq_false (by omega);have d2:decide (m<=v)=false:=decide_eq_false (by omega);clear hG hD h2;obtain⟨W,hW,HB,HG⟩:=gbW h;have HW:=hh_ hW;clear hW h;obtain⟨e0,e1⟩:=gx_ HG;go_enter Tryz.func176,Tryz.ntmps176;go_wp2_with fail
 rw[<-HW.out];refine(IsGraph_sv HG.gv).mono ?_;rintro e w1 ⟨rfl,hb1⟩;clear HW;clear e0 e1;obtain⟨HB,HG,e0,e1⟩:=kG_ HB HG hb1;clear hb1;go_wp2;go_loopw [7,8] (fun a b wr=> ∃k:Nat,k<=m/\a=.int .i64 (G k:Nat)/\b=.int .i64 k/\Hid (∀j,j<k->(G j).testBit v=false)/\Hid (From w1 wr)) (fun _ b _=>m-(intOf b).toNat);case atStart=>exact⟨0,by omega,by rw[Hgc.out],rfl,(fun j hj=>absurd hj (by omega)),From.refl _⟩
 case round=>
  obtain⟨k,hk,rfl,rfl,hall,HR⟩:=hrel;clear e0 e1;replace HB:=hh_ (HB.keep HR.below);replace HG:=hh_ (HG.keep HR.below);obtain⟨e0,e1⟩:=gx_ HG;by_cases hkm:k<m
  ·have i5:(k:Int)<m:=by omega
   have hlt:=Hglt.out k;have hst:=Hst.out k;obtain⟨s,hs⟩: ∃s,s=G k:=⟨_,rfl⟩;rw[<-hs] at hst hlt ⊢;have Hs:=hh_ hs;clear hs;have E1:=and_one_i64 (s:Int) v (by omega) (by omega);rw[Int.toNat_natCast] at E1;cases hb:s.testBit v
   ·rw[hb] at E1;have Hall:Hid (∀j,j<k+1->(G j).testBit v=false):=fun j hj=>by
     by_cases hjk:j<k
     ·exact hall.out j hjk
     ·obtain rfl:j=k:=by omega
      rw[<-Hs.out];exact hb
    have KN:=hh_ (AroundSet_sv HG.gv hlt);rw[<-hst] at KN;clear hb hst;go_wp2_with fail
    refine(KN.out).mono ?_;rintro e w2 ⟨rfl,hb2⟩;clear e0 e1;replace HB:=hh_ (HB.keep hb2);replace HG:=hh_ (HG.keep hb2);replace HR:=hh_ (HR.keep hb2);clear hb2;obtain⟨e0,e1⟩:=gx_ HG;go_wp2;go_roundw;case rel=>exact⟨k+1,by omega,rfl,by go_num,Hall,HR⟩
    case measure=>simp[intOf]<;>omega
   ·rw[hb] at E1;have Hn:Hid (D=k):=Hyes.out k hkm (by rw[<-Hs.out];exact hb) hall.out;clear hb hst;go_wp2;go_ret;exact⟨ret_int Hn.symm,HB.below⟩
  ·have i5:(m:Int)<=k:=by omega
   have Hn:Hid (D= -1):=Hno.out fun j hj=>hall.out j (by omega)
   go_wp2;go_ret;exact⟨ret_int Hn.symm,HB.below⟩
theorem l3Grow_v {A:Option Addr} {m c:Nat} {r:Nat->Nat} {w:World} (h:GV w A m c r) {v:Nat} (hv:v<m):
 Calls Tryz.prog 175 #[.agg #[.int .i64 m,.slice A m c],.int .i64 ((2^v:Nat):Int),.int .i64 ((2^m-1:Nat):Int)] w fun e w'=>e=.returned (.int .i64 (cmp r m v:Nat))/\Below w.heap.size w w':=by
 have:=l3Grow_s m A c (fun v=>(r v:Int)) (2^v) (2^m-1) w w.heap.size h.rd nr_ h.ok (by have:=Nat.two_pow_pos m;omega) (full_sub_of hv) (pow_ne v);rwa [rw_cast] at this
set_option maxRecDepth 100000 in
theorem SidesOf_sv {A:Option Addr} {m c:Nat} {r:Nat->Nat} {w:World} (h:GV w A m c r):
 Calls Tryz.prog 113 #[.agg #[.int .i64 m,.slice A m c]] w fun e w'=>e=.returned (lsV (sdO r m))/\Below w.heap.size w w':=by
 have hn7:=h.vg.n7;have h128:=two_pow_le hn7;have hpos:=Nat.two_pow_pos m;have HV:=hh_ h.vg;obtain⟨F,hF⟩: ∃F,F=2^m:=⟨_,rfl⟩;have pm:IntKind.i64.wrap ((2:Int)^m)=(F:Int):=by rw[pow_shl m hn7,hF];simp
 have sm:IntKind.i64.wrap ((F:Int)-1)=((F-1:Nat):Int):=by rw[Go.IntWalk.i64_in _ (by omega)];omega
 have HF:=hh_ hF;clear hF;have hFl:1<=F/\F<=128:=by rw[HF.out];exact⟨hpos,h128⟩
 obtain⟨W,hW,HB,HG⟩:=gbW h;have HW:=hh_ hW;clear hW h;obtain⟨e0,e1⟩:=gx_ HG;have HG0:=HG;go_enter Tryz.func113,Tryz.ntmps113;go_wp2;rw[<-HW.out];clear HW e0 e1;go_loopw [4,5] (fun a b wr=> ∃v:Nat,v<=m/\b=.int .i64 v/\a=.int .i64 (bmK (evB r m) v:Nat)/\Hid (From W wr)) (fun _ b _=>m-(intOf b).toNat);case atStart=>exact⟨0,Nat.zero_le _,rfl,rfl,From.refl _⟩
 case round=>
  obtain⟨v,hv,rfl,rfl,HR⟩:=hrel;have hElt:=bmK_lt (P:=evB r m) v;have hEb:(bmK (evB r m) v).testBit v=false:=by rw[bmK_bit];simp
  have Hst:Hid (bmK (evB r m) (v+1)=if evB r m v=true then bmK (evB r m) v+2^v else bmK (evB r m) v):=by
   show _=_;rw[bmK];cases evB r m v
   ·rfl
   ·rw[if_pos rfl,if_pos rfl,or_of_add hEb]
  have h2v:=two_pow_le (n:=v) (by omega);have Hfin:Hid (v=m->bmK (evB r m) v=sdS r m):=fun h=>by rw[h];rfl
  obtain⟨E,hE⟩: ∃E,E=bmK (evB r m) v:=⟨_,rfl⟩;rw[<-hE] at hElt Hst Hfin ⊢;have HGr:=hh_ (HG0.keep HR.below);have HBr:=hh_ (HB.up HR.out);clear hE hEb;by_cases hvm:v<m
  ·have i1:(v:Int)<m:=by omega
   have e0:=HGr.c0;have e1:=HGr.c1;go_wp2_with fail
   refine(IsGraph_sv HGr.gv).mono ?_;rintro e w1 ⟨rfl,hb1⟩;clear e0 e1;replace HR:=hh_ (HR.keep hb1);replace HBr:=hh_ (HBr.keep hb1);replace HGr:=hh_ (HGr.keep hb1);clear hb1;have e0:=HGr.c0;have e1:=HGr.c1;obtain⟨p,hp⟩: ∃p,p=cmp r m v:=⟨_,rfl⟩;have hplt:p<2^m:=by rw[hp];exact cmp_lt hvm
   have hpne:p≠0:=by
    intro h0;have:=cmp_self (r:=r) hvm;rw[<-hp,h0] at this;simp at this
   have hev:=evB_is hp;obtain⟨hfb,hfl⟩:=fst_in (by omega:p<128) hpne;have hfm:=bit_lt hplt hfb;have Hf0:Hid (∀(hj:0<(listN p).length),(listN p)[0]=fstN p):=fun hj=>by unfold fstN;simp[List.getD,hj]
   obtain⟨z,hz⟩: ∃z,z=2^v:=⟨_,rfl⟩;have pv:IntKind.i64.wrap ((2:Int)^v)=(z:Int):=by rw[pow_shl v (by omega),hz];simp
   have HGq:=HGr;have KG:Hid (∀z':World,Below w1.heap.size w1 z'->Calls Tryz.prog 175 #[.agg #[.int .i64 m,.slice A m c],.int .i64 (z:Int),.int .i64 ((F-1:Nat):Int)] z' fun e w'=>e=.returned (.int .i64 (p:Nat))/\Below z'.heap.size z' w'):=fun z' hz'=>by rw[hz,HF.out,hp];exact l3Grow_v (HGq.gv.keep hz') hvm
   obtain⟨f,hf⟩: ∃f,f=fstN p:=⟨_,rfl⟩;rw[<-hf] at hfm Hf0 hev;have hzl:z<=128:=by omega
   rw[<-hz] at Hst hElt;clear hp hf hz;go_wp2;obtain⟨HSC,HZ0,HS1⟩:=hsc2 e0 e1;have KR1:Hid (∀z:World,Below w1.heap.size w1 z->_):=fun z hz=>KG.out _ hz
   go_region_held3 (fun z=>Below w1.heap.size w1 z/\z.cell? ⟨w.heap.size,0,none⟩=some (.int .i64 m)/\z.cell? ⟨w.heap.size,1,none⟩=some (.slice A m c))
    (first|exact HS1.out|assumption|exact HSC.out _ hz2|fail)
    (first|(go_at_call 175;((with_reducible refine(KR1.out _ HZ0.out).mono ?_);rintro e w2 ⟨rfl,hb2⟩;have hz2:=bl_trans HZ0.out hb2)))
   clear e0 e1;replace HR:=hh_ (HR.keep hz2);replace HBr:=hh_ (HBr.keep hz2);replace HGr:=hh_ (HGr.keep hz2);clear hb2 hz2 HSC HZ0 HS1 KR1;have e0:=HGr.c0;have e1:=HGr.c1;have KD:Hid (∀z:World,Below w2.heap.size w2 z->Calls Tryz.prog 176 #[.agg #[.int .i64 m,.slice A m c],.int .i64 f,.int .i64 v] z fun e w'=>e=.returned (.int .i64 (dsI r m f v))/\Below z.heap.size z w'):=fun z hz=>DistanceOf_sv (HGr.gv.keep hz) hfm hvm
   have KL:Hid (∀z:World,Calls Tryz.prog 177 #[.int .i64 (p:Int)] z fun e w'=> ∃g c,e=.returned (.slice (some ⟨g,0,none⟩) (listN p).length c)/\w'.cell? ⟨g,0,none⟩=some (.int .i64 (f:Nat))/\Below z.heap.size z w'):=fun z=>(ListOf_sv p (by omega) z).mono fun e w' ⟨A,c,h1,h2,h3⟩=>by
    obtain⟨g,rfl,_⟩:=h2.own.at_ (by omega);refine⟨g,c,h1,?_,h3⟩;have:=h2.ln.at hfl;rwa [Hf0.out hfl,Nat.zero_add] at this
   have hrg:=dsI_range (r:=r) (m:=m) f v;obtain⟨D,hD⟩: ∃D,D=dsI r m f v:=⟨_,rfl⟩;rw[<-hD] at KD hrg hev;have i3:(0:Int)<((listN p).length:Int):=by omega
   have s1:IntKind.i64.wrap (D.tmod 2)=D.tmod 2:=by
    rcases (by omega:D= -1\/D=0\/D=1\/D=2\/D=3\/D=4\/D=5\/D=6) with rfl|rfl|rfl|rfl|rfl|rfl|rfl|rfl<;>decide
   clear hD hrg KG HGq;go_wp2;obtain⟨HSC,HZ0,HS1⟩:=hsc2 e0 e1;have KR1:Hid (∀z:World,Below w2.heap.size w2 z->_):=fun z hz=>KL.out z
   have KR2:Hid (∀z:World,Below w2.heap.size w2 z->_):=fun z hz=>KD.out _ hz
   refine wpH HS1.out (fun hHeld=> ?_);refine pcY 0 ?_;refine ptY ?_;refine pcY 5 ?_;refine w1H 2 (fun K hK=> ?_);go_simp;go_at_call 177;refine(KR1.out _ HZ0.out).mono ?_
   rintro e w3 ⟨g7,c7,rfl,h7c,hb3⟩;have hz3:=bl_trans HZ0.out hb3;refine hK.out _ _ (HSC.out _ hz3) (fun hHeld=> ?_);clear hK K;try simp only[Act.put,sl0,sl1,sl2]
   refine ptY ?_;refine w1H 4 (fun K hK=> ?_);go_simp;refine hK.out _ _ (HSC.out _ hz3) (fun hHeld=> ?_);clear hK K;try simp only[Act.put,sl0,sl1,sl2]
   refine w1H 6 (fun K hK=> ?_);go_simp;go_at_call 176;refine(KR2.out _ hz3).mono ?_
   rintro e w4 ⟨rfl,hb4⟩;have hz4:=bl_trans hz3 hb4;refine hK.out _ _ (HSC.out _ hz4) (fun hHeld=> ?_);clear hK K;try simp only[Act.put,sl0,sl1,sl2]
   iterate 2 (refine ptY ?_)
   refine wpAnyH_done (by kernel_rfl) ?_ _;clear e0 e1;replace HR:=hh_ (HR.keep hz4);replace HBr:=hh_ (HBr.keep hz4);replace HGr:=hh_ (HGr.keep hz4);clear hb3 hz3 hb4 hz4 HSC HZ0 HS1 KR1 KR2;have e0:=HGr.c0;have e1:=HGr.c1;cases hb:evB r m v
   ·have Hs1:Hid (bmK (evB r m) (v+1)=E):=by show _=_;rw[Hst.out,hb];rfl
    have d1:(D.tmod 2==0)=false:=by rw[hev] at hb;simpa using hb
    clear hb hev;go_wp2;go_roundw;case rel=>exact⟨v+1,by omega,by go_num,by rw[Hs1.out],HR⟩
    case measure=>simp[intOf]<;>omega
   ·have Hs1:Hid (bmK (evB r m) (v+1)=E+z):=by show _=_;rw[Hst.out,hb];rfl
    have d1:(D.tmod 2==0)=true:=by rw[hev] at hb;simpa using hb
    have s3:IntKind.i64.wrap ((E:Int)+(z:Int))=((E+z:Nat):Int):=by rw[Go.IntWalk.i64_in _ (by omega)];simp
    clear hb hev;go_wp2;go_roundw;case rel=>exact⟨v+1,by omega,by go_num,by rw[Hs1.out];first|rfl|exact congrArg (Value.int .i64) s3,HR⟩
    case measure=>simp[intOf]<;>omega
  ·have hvm':v=m:=by omega
   have hSlt:E<2^m:=by rw[<-hvm'];exact hElt
   have i1:(m:Int)<=v:=by omega
   have Hsd:Hid (E=sdS r m):=Hfin.out hvm';have hcl:=comp_lt hn7 hSlt;have hfs:=full_sub hn7 hSlt;have Hyes:Hid (indB r E=true->indB r ((2^m-1)^^^E)=true->sdO r m=some E):=fun h1 h2=>by unfold sdO;rw[<-Hsd.out,h1,h2];rfl
   have Hno1:Hid (indB r E=false->sdO r m=none):=fun h1=>by unfold sdO;rw[<-Hsd.out,h1];rfl
   have Hno2:Hid (indB r ((2^m-1)^^^E)=false->sdO r m=none):=fun h1=>by unfold sdO;rw[<-Hsd.out,h1,Bool.and_false];rfl
   obtain⟨t,ht⟩: ∃t,t=(2^m-1)^^^E:=⟨_,rfl⟩;rw[<-ht] at hcl Hyes Hno2 hfs;rw[<-HF.out] at hfs;have hEF:E<F:=by rw[HF.out];exact hSlt
   have s3:IntKind.i64.wrap (((F-1:Nat):Int)-(E:Int))=(t:Int):=by rw[Go.IntWalk.i64_in _ (by omega)];omega
   have HGq:=HGr;have KS:Hid (∀z:World,Below wr.heap.size wr z->Calls Tryz.prog 39 #[.agg #[.int .i64 m,.slice A m c]] z fun e w'=>e=.returned (.bool true)/\Below z.heap.size z w'):=fun z hz=>IsGraph_sv (HGq.gv.keep hz)
   have KI:Hid (∀z:World,Below wr.heap.size wr z->Calls Tryz.prog 178 #[.agg #[.int .i64 m,.slice A m c],.int .i64 (E:Int)] z fun e w'=>e=.returned (.bool (indB r E))/\Below z.heap.size z w'):=fun z hz=>IsIndependent_sv (HGq.gv.keep hz) hSlt
   have KC:Hid (∀z:World,Below wr.heap.size wr z->Calls Tryz.prog 178 #[.agg #[.int .i64 m,.slice A m c],.int .i64 (t:Int)] z fun e w'=>e=.returned (.bool (indB r t))/\Below z.heap.size z w'):=fun z hz=>IsIndependent_sv (HGq.gv.keep hz) hcl
   clear ht hvm' hfs hcl;have e0:=HGr.c0;have e1:=HGr.c1;cases hi:indB r E
   ·rw[hi] at KI;have Hn:=hh_ (Hno1.out hi);clear hi;go_wp2;obtain⟨HSC,HZ0,HS1⟩:=hsc2 e0 e1;have KR1:Hid (∀z:World,Below wr.heap.size wr z->_):=fun z hz=>KS.out _ hz
    have KR2:Hid (∀z:World,Below wr.heap.size wr z->_):=fun z hz=>KI.out _ hz
    refine wpH HS1.out (fun hHeld=> ?_);refine pcY 0 ?_;refine w1H 1 (fun K hK=> ?_);go_simp;go_at_call 39;refine(KR1.out _ HZ0.out).mono ?_
    rintro e w5 ⟨rfl,hb5⟩;have hz5:=bl_trans HZ0.out hb5;refine hK.out _ _ (HSC.out _ hz5) (fun hHeld=> ?_);clear hK K;try simp only[Act.put,sl0,sl1,sl2]
    iterate 4 (refine ptY ?_)
    refine w1H 6 (fun K hK=> ?_);go_simp;go_at_call 178;refine(KR2.out _ hz5).mono ?_
    rintro e w6 ⟨rfl,hb6⟩;have hz6:=bl_trans hz5 hb6;refine hK.out _ _ (HSC.out _ hz6) (fun hHeld=> ?_);clear hK K;try simp only[Act.put,sl0,sl1,sl2]
    iterate 3 (refine ptY ?_)
    iterate 9 (refine ptN ?_)
    refine ptY ?_;refine wpAnyH_done (by kernel_rfl) ?_ _;clear e0 e1;replace HBr:=hh_ (HBr.keep hz6);replace HGr:=hh_ (HGr.keep hz6);clear hb5 hz5 hb6 hz6 HSC HZ0 HS1 KR1 KR2;have e0:=HGr.c0;have e1:=HGr.c1;go_wp2;go_ret2;exact⟨by rw[Hn.out];rfl,HBr.below⟩
   ·rw[hi] at KI;cases hc:indB r t
    ·rw[hc] at KC;have Hn:=hh_ (Hno2.out hc);clear hi hc;go_wp2;obtain⟨HSC,HZ0,HS1⟩:=hsc2 e0 e1;have KR1:Hid (∀z:World,Below wr.heap.size wr z->_):=fun z hz=>KS.out _ hz
     have KR2:Hid (∀z:World,Below wr.heap.size wr z->_):=fun z hz=>KI.out _ hz
     have KR3:Hid (∀z:World,Below wr.heap.size wr z->_):=fun z hz=>KC.out _ hz
     refine wpH HS1.out (fun hHeld=> ?_);refine pcY 0 ?_;refine w1H 1 (fun K hK=> ?_);go_simp;go_at_call 39;refine(KR1.out _ HZ0.out).mono ?_
     rintro e w7 ⟨rfl,hb7⟩;have hz7:=bl_trans HZ0.out hb7;refine hK.out _ _ (HSC.out _ hz7) (fun hHeld=> ?_);clear hK K;try simp only[Act.put,sl0,sl1,sl2]
     iterate 4 (refine ptY ?_)
     refine w1H 6 (fun K hK=> ?_);go_simp;go_at_call 178;refine(KR2.out _ hz7).mono ?_
     rintro e w8 ⟨rfl,hb8⟩;have hz8:=bl_trans hz7 hb8;refine hK.out _ _ (HSC.out _ hz8) (fun hHeld=> ?_);clear hK K;try simp only[Act.put,sl0,sl1,sl2]
     iterate 10 (refine ptY ?_)
     refine w1H 17 (fun K hK=> ?_);go_simp;go_at_call 178;refine(KR3.out _ hz8).mono ?_
     rintro e w9 ⟨rfl,hb9⟩;have hz9:=bl_trans hz8 hb9;refine hK.out _ _ (HSC.out _ hz9) (fun hHeld=> ?_);clear hK K;try simp only[Act.put,sl0,sl1,sl2]
     iterate 2 (refine ptY ?_)
     refine wpAnyH_done (by kernel_rfl) ?_ _;clear e0 e1;replace HBr:=hh_ (HBr.keep hz9);replace HGr:=hh_ (HGr.keep hz9);clear hb7 hz7 hb8 hz8 hb9 hz9 HSC HZ0 HS1 KR1 KR2 KR3;have e0:=HGr.c0;have e1:=HGr.c1;go_wp2;go_ret2;exact⟨by rw[Hn.out];rfl,HBr.below⟩
    ·rw[hc] at KC;have Hn:=hh_ (Hyes.out hi hc);clear hi hc;go_wp2;obtain⟨HSC,HZ0,HS1⟩:=hsc2 e0 e1;have KR1:Hid (∀z:World,Below wr.heap.size wr z->_):=fun z hz=>KS.out _ hz
     have KR2:Hid (∀z:World,Below wr.heap.size wr z->_):=fun z hz=>KI.out _ hz
     have KR3:Hid (∀z:World,Below wr.heap.size wr z->_):=fun z hz=>KC.out _ hz
     refine wpH HS1.out (fun hHeld=> ?_);refine pcY 0 ?_;refine w1H 1 (fun K hK=> ?_);go_simp;go_at_call 39;refine(KR1.out _ HZ0.out).mono ?_
     rintro e w10 ⟨rfl,hb10⟩;have hz10:=bl_trans HZ0.out hb10;refine hK.out _ _ (HSC.out _ hz10) (fun hHeld=> ?_);clear hK K;try simp only[Act.put,sl0,sl1,sl2]
     iterate 4 (refine ptY ?_)
     refine w1H 6 (fun K hK=> ?_);go_simp;go_at_call 178;refine(KR2.out _ hz10).mono ?_
     rintro e w11 ⟨rfl,hb11⟩;have hz11:=bl_trans hz10 hb11;refine hK.out _ _ (HSC.out _ hz11) (fun hHeld=> ?_);clear hK K;try simp only[Act.put,sl0,sl1,sl2]
     iterate 10 (refine ptY ?_)
     refine w1H 17 (fun K hK=> ?_);go_simp;go_at_call 178;refine(KR3.out _ hz11).mono ?_
     rintro e w12 ⟨rfl,hb12⟩;have hz12:=bl_trans hz11 hb12;refine hK.out _ _ (HSC.out _ hz12) (fun hHeld=> ?_);clear hK K;try simp only[Act.put,sl0,sl1,sl2]
     iterate 2 (refine ptY ?_)
     refine wpAnyH_done (by kernel_rfl) ?_ _;clear e0 e1;replace HBr:=hh_ (HBr.keep hz12);replace HGr:=hh_ (HGr.keep hz12);clear hb10 hz10 hb11 hz11 hb12 hz12 HSC HZ0 HS1 KR1 KR2 KR3;have e0:=HGr.c0;have e1:=HGr.c1;go_wp2;go_ret2;exact⟨by rw[Hn.out];rfl,HBr.below⟩
section
variable (sz:Int) (A:Option Addr) (m c:Nat) (x:Nat->Int) (w:World)
set_option maxRecDepth 100000 in
theorem SidesOf_sno (h:GA w A m c x) (hm:m<=1048576) (hok:okB sz m x=false):
 Calls Tryz.prog 113 #[.agg #[.int .i64 sz,.slice A m c]] w fun e w'=>e=.returned (lsV none)/\Below w.heap.size w w':=by
 obtain⟨W,hW⟩: ∃W,W=(w.alloc (Obj.cells #[.int .i64 sz,.slice A m c] 26)):=⟨_,rfl⟩;have HB0:Hid (From w W):=by rw[hW];exact From.alloc _ _
 have HK0:=hh_ (h.keep HB0.below);have HC0:Hid (GC W w.heap.size sz A m c):=by rw[hW];exact GC.new _ _ _ _ _
 have HW:=hh_ hW;have Ho:=hh_ hok;clear hW h hok;go_enter Tryz.func113,Tryz.ntmps113;go_wp2_with fail
 rw[<-HW.out];clear HW;go_wp2;go_loopw [4,5] (fun a b wr=>a=.int .i64 0/\b=.int .i64 0/\Hid (From W wr)) (fun _ _ _=>1);case atStart=>exact⟨rfl,rfl,From.refl _⟩
 case round=>
  obtain⟨rfl,rfl,HR⟩:=hrel;have HB:=hh_ (HB0.up HR.out);have HK:=hh_ (HK0.keep HR.below);have HC:=hh_ (HC0.keep HR.below);have e0:=HC.c0;have e1:=HC.c1;by_cases h0:(0:Int)<sz
  ·go_wp2_with fail
   refine(IsGraph_sany sz A m c x wr wr.heap.size HK.rd nr_ hm).mono ?_;rintro e w1 ⟨rfl,hb1⟩;rw[Ho.out];clear e0 e1;replace HB:=hh_ (HB.keep hb1);replace HK:=hh_ (HK.keep hb1);replace HC:=hh_ (HC.keep hb1);clear hb1;have e0:=HC.c0;have e1:=HC.c1;have HKq:=HK;have KS:Hid (∀z:World,Below w1.heap.size w1 z->Calls Tryz.prog 39 #[.agg #[.int .i64 sz,.slice A m c]] z fun e w'=>e=.returned (.bool false)/\Below z.heap.size z w'):=fun z hz=>by
    have:=IsGraph_sany sz A m c x z z.heap.size (HKq.keep hz).rd nr_ hm;rwa [Ho.out] at this
   go_wp2;obtain⟨HSC,HZ0,HS1⟩:=hsc2 e0 e1;have KR1:Hid (∀z:World,Below w1.heap.size w1 z->_):=fun z hz=>KS.out _ hz
   refine wpH HS1.out (fun hHeld=> ?_);refine pcY 0 ?_;refine w1H 1 (fun K hK=> ?_);go_simp;go_at_call 39;refine(KR1.out _ HZ0.out).mono ?_
   rintro e w1 ⟨rfl,hb1⟩;have hz1:=bl_trans HZ0.out hb1;refine hK.out _ _ (HSC.out _ hz1) (fun hHeld=> ?_);clear hK K;try simp only[Act.put,sl0,sl1,sl2]
   iterate 2 (refine ptY ?_)
   iterate 4 (refine ptN ?_)
   iterate 2 (refine ptY ?_)
   iterate 9 (refine ptN ?_)
   refine ptY ?_;refine wpAnyH_done (by kernel_rfl) ?_ _;clear e0 e1;replace HB:=hh_ (HB.keep hz1);replace HK:=hh_ (HK.keep hz1);replace HC:=hh_ (HC.keep hz1);clear hb1 hz1 HSC HZ0 HS1 KR1;have e0:=HC.c0;have e1:=HC.c1;go_wp2;go_ret2;exact⟨rfl,HB.below⟩
  ·have h1:sz<=0:=by omega
   have HKq:=HK;have KS:Hid (∀z:World,Below wr.heap.size wr z->Calls Tryz.prog 39 #[.agg #[.int .i64 sz,.slice A m c]] z fun e w'=>e=.returned (.bool false)/\Below z.heap.size z w'):=fun z hz=>by
    have:=IsGraph_sany sz A m c x z z.heap.size (HKq.keep hz).rd nr_ hm;rwa [Ho.out] at this
   clear h0;go_wp2;obtain⟨HSC,HZ0,HS1⟩:=hsc2 e0 e1;have KR1:Hid (∀z:World,Below wr.heap.size wr z->_):=fun z hz=>KS.out _ hz
   refine wpH HS1.out (fun hHeld=> ?_);refine pcY 0 ?_;refine w1H 1 (fun K hK=> ?_);go_simp;go_at_call 39;refine(KR1.out _ HZ0.out).mono ?_
   rintro e w2 ⟨rfl,hb2⟩;have hz2:=bl_trans HZ0.out hb2;refine hK.out _ _ (HSC.out _ hz2) (fun hHeld=> ?_);clear hK K;try simp only[Act.put,sl0,sl1,sl2]
   iterate 2 (refine ptY ?_)
   iterate 4 (refine ptN ?_)
   iterate 2 (refine ptY ?_)
   iterate 9 (refine ptN ?_)
   refine ptY ?_;refine wpAnyH_done (by kernel_rfl) ?_ _;clear e0 e1;replace HB:=hh_ (HB.keep hz2);replace HK:=hh_ (HK.keep hz2);replace HC:=hh_ (HC.keep hz2);clear hb2 hz2 HSC HZ0 HS1 KR1;have e0:=HC.c0;have e1:=HC.c1;go_wp2;go_ret2;exact⟨rfl,HB.below⟩
set_option maxRecDepth 100000 in
theorem IsBipartite_s (h:GA w A m c x) (hm:m<=1048576):
 Calls Tryz.prog 54 #[.agg #[.int .i64 sz,.slice A m c]] w fun e w'=>e=.returned (.bool (biB sz m x))/\Below w.heap.size w w':=by
 obtain⟨W,hW,HB,HK,HC⟩:=gaW sz h;have HW:=hh_ hW;clear hW h;go_enter Tryz.func54,Tryz.ntmps54;cases ho:okB sz m x
 ·have Hn:Hid (biB sz m x=false):=biB_no ho;have KF:=hh_ (SidesOf_sno sz A m c x W HK hm ho);clear ho;obtain⟨e0,e1⟩:=gc_ HC;go_wp2_with fail
  rw[<-HW.out];refine(KF.out).mono ?_;rintro e w1 ⟨rfl,hb1⟩;clear HW;clear e0 e1;obtain⟨HB,HK,HC,e0,e1⟩:=kC_ HB HK HC hb1;clear hb1;clear KF;rw[lsV_none];go_wp2;go_ret;exact⟨ret_bool Hn.symm,HB.below⟩
 obtain⟨_,es,_,_⟩:=okB_ok' ho;subst es;have Hn:Hid (biB (m:Int) m x=(sdO (rw_ x) m).isSome):=biB_yes ho;have HG:Hid (GBox W w.heap.size A m c (rw_ x)):=⟨HK.gv ho,HC.c0,HC.c1,HC.lt⟩;have KF:=hh_ (SidesOf_sv HG.gv);obtain⟨o,ho2⟩: ∃o,o=sdO (rw_ x) m:=⟨_,rfl⟩;rw[<-ho2] at Hn KF;clear ho ho2 HC HK;cases o
 ·skip;obtain⟨e0,e1⟩:=gx_ HG;go_wp2_with fail
  rw[<-HW.out];refine(KF.out).mono ?_;rintro e w2 ⟨rfl,hb2⟩;clear HW;clear e0 e1;obtain⟨HB,HG,e0,e1⟩:=kG_ HB HG hb2;clear hb2;clear KF;rw[lsV_none];go_wp2;go_ret;exact⟨ret_bool Hn.symm,HB.below⟩
 ·skip;obtain⟨e0,e1⟩:=gx_ HG;go_wp2_with fail
  rw[<-HW.out];refine(KF.out).mono ?_;rintro e w3 ⟨rfl,hb3⟩;clear HW;clear e0 e1;obtain⟨HB,HG,e0,e1⟩:=kG_ HB HG hb3;clear hb3;clear KF;rw[lsV_some];go_wp2;go_ret;exact⟨ret_bool Hn.symm,HB.below⟩
end
end Go.Proofs.YtfabbohijhjpcaaGreatDoor
