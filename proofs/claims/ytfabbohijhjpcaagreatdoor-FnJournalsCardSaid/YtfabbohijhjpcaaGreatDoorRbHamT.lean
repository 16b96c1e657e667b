/- Lemmas. -/
import Derived.Test.YtfabbohijhjpcaaGreatDoorRbThoI
import Derived.Test.YtfabbohijhjpcaaGreatDoorRbPrfI
/-
-/
namespace Go.Proofs.YtfabbohijhjpcaaGreatDoor
open Go.RowKit
set_option maxHeartbeats 6400000
section
variable {A:Option Addr} {m c:Nat} {r:Nat->Nat} {w:World}
set_option maxRecDepth 100000 in
theorem ThresholdOrder_sv (h:GV w A m c r):
 Calls Tryz.prog 112 #[.agg #[.int .i64 m,.slice A m c]] w fun e w'=> ∃V1 V2,e=.returned (.tuple #[V1,V2,.bool (thO r m).isSome])/\Below w.heap.size w w':=by
 obtain⟨b0,o0,rfl⟩:=h.addr;have hn7:=h.vg.n7;have h128:=two_pow_le hn7;have hpos:=Nat.two_pow_pos m;have HV:=hh_ h.vg;have Hth0:Hid ((thO r m).isSome=(redL (thF r) (2^m-1)).isSome):=rfl;obtain⟨F,hF⟩: ∃F,F=2^m:=⟨_,rfl⟩;have pm:IntKind.i64.wrap ((2:Int)^m)=(F:Int):=by rw[pow_shl m hn7,hF];simp
 have sm:IntKind.i64.wrap ((F:Int)-1)=((F-1:Nat):Int):=by rw[Go.IntWalk.i64_in _ (by omega)];omega
 have HF:=hh_ hF;have hFl:1<=F/\F<=128:=by rw[hF];exact⟨hpos,h128⟩
 clear hF;obtain⟨W,hW⟩: ∃W,W=(((w.alloc (Obj.cells #[.int .i64 m,.slice (some ⟨b0,o0,none⟩) m c] 26)).alloc (Obj.cells #[] 3)).alloc (Obj.cells #[] 4)):=⟨_,rfl⟩;have HB:Hid (From w W):=by rw[hW];exact((From.alloc _ _).alloc_ _).alloc_ _
 have HG:Hid (GBox W w.heap.size (some ⟨b0,o0,none⟩) m c r):=by rw[hW];exact h.box.keep ((br_.alloc nr_ _).alloc (by simp) _)
 have HI:Hid (Own W w.heap.size W.heap.size 3 1 (some ⟨w.heap.size+1,0,none⟩) 0 0 (fun j=> .int .i64 ((fun _=>0:Nat->Nat) j:Nat))):=by
  rw[hW];have h1:=(ON.nil (w.alloc (Obj.cells #[.int .i64 m,.slice (some ⟨b0,o0,none⟩) m c] 26))).own;rw[show (w.alloc (Obj.cells #[.int .i64 m,.slice (some ⟨b0,o0,none⟩) m c] 26)).heap.size=w.heap.size+1 from by simp] at h1;exact((h1.congr (fun j hj=>absurd hj (by simp))).alloc _).mono (by omega) (by simp)
 have HJ:Hid (Own W w.heap.size W.heap.size 4 1 (some ⟨w.heap.size+2,0,none⟩) 0 0 (fun j=> .bool ((fun _=>false:Nat->Bool) j))):=by
  have hn:=heap_alloc_new ((w.alloc (Obj.cells #[.int .i64 m,.slice (some ⟨b0,o0,none⟩) m c] 26)).alloc (Obj.cells #[] 3)) (Obj.cells #[] 4);have he:((w.alloc (Obj.cells #[.int .i64 m,.slice (some ⟨b0,o0,none⟩) m c] 26)).alloc (Obj.cells #[] 3)).heap.size=w.heap.size+2:=by simp
  have hz:W.heap.size=w.heap.size+3:=by rw[hW];simp
  rw[he,<-hW] at hn;exact .inr ⟨w.heap.size+2,#[],rfl,by omega,by omega,hn,nr_,by unfold maxLen;omega,rfl,fun j hj=>absurd hj (by omega)⟩
 have HW:=hh_ hW;clear hW h;go_enter Tryz.func112,Tryz.ntmps112;obtain⟨e0,e1⟩:=gx_ HG;go_wp2_with fail
 rw[<-HW.out];clear HW;refine(IsGraph_sv HG.gv).mono ?_;rintro e w1 ⟨rfl,hb1⟩;have HI1:Hid (Own w1 w.heap.size w1.heap.size 3 1 (some ⟨w.heap.size+1,0,none⟩) 0 0 (fun j=> .int .i64 ((fun _=>0:Nat->Nat) j:Nat))):=(HI.keepB hb1 nr_).mono nr_ hb1.size;have HJ1:Hid (Own w1 w.heap.size w1.heap.size 4 1 (some ⟨w.heap.size+2,0,none⟩) 0 0 (fun j=> .bool ((fun _=>false:Nat->Bool) j))):=(HJ.keepB hb1 nr_).mono nr_ hb1.size;clear HI HJ;clear e0 e1;obtain⟨HB,HG,e0,e1⟩:=kG_ HB HG hb1;clear hb1;go_wp2;go_loopw [5,6,7] (fun a b l wr=> ∃(n left:Nat) (A1 A2:Option Addr) (c1 c2:Nat) (q:Nat->Nat) (d:Nat->Bool),n+left<F/\a=.slice A1 n c1/\b=.slice A2 n c2/\l=.int .i64 left/\Hid (Own wr w.heap.size wr.heap.size 3 1 A1 n c1 (fun j=> .int .i64 (q j:Nat)))/\Hid (Own wr w.heap.size wr.heap.size 4 1 A2 n c2 (fun j=> .bool (d j)))/\Hid (From w1 wr)/\Hid ((thO r m).isSome=(redL (thF r) left).isSome)) (fun _ _ l _=>(intOf l).toNat)
 case atStart=>exact⟨0,F-1,_,_,0,0,_,_,by omega,rfl,rfl,rfl,HI1,HJ1,From.refl _,by rw[HF.out];exact Hth0.out⟩
 case round=>
  obtain⟨n,left,A1,A2,c1,c2,q,d,hnl,rfl,rfl,rfl,HOI,HOJ,HR,Hth⟩:=hrel;clear HI1 HJ1 Hth0;clear e0 e1;replace HB:=hh_ (HB.keep HR.below);replace HG:=hh_ (HG.keep HR.below);obtain⟨e0,e1⟩:=gx_ HG;by_cases hl0:left=0
  ·subst hl0;have Hs:Hid ((thO r m).isSome=true):=by show _=_;rw[Hth.out,redL_zero];rfl
   clear Hth;go_wp2;go_ret3;exact⟨_,_,by rw[Hs.out];rfl,HB.below⟩
  ·have i1:(0:Int)<left:=by omega
   have Hl0:=hh_ hl0;have Hll:Hid (left<2^m):=by show _<_;rw[<-HF.out];omega
   clear hl0;go_wp2;go_loopw [8,9,10] (fun a b v wz=> ∃(k:Nat) (t:Bool),k<=m/\v=.int .i64 k/\a=.int .i64 (optI (thT r left k))/\b=.bool t/\wz=wr) (fun _ _ v _=>m-(intOf v).toNat);case atStart=>exact⟨0,false,Nat.zero_le _,rfl,rfl,rfl,rfl⟩
   case round=>
    obtain⟨k,t,hk,rfl,rfl,rfl,rfl⟩:=hrel;by_cases hkm:k<m
    ·have i2:(k:Int)<m:=by omega
     have p0:=HG.gv.row hkm;have hr:=HV.lt128 hkm;have hirr:=HV.irr k hkm;have Hno:Hid ((left.testBit k=false\/thB r left k=false)->thT r left (k+1)=thT r left k):=fun h=>thT_no h
     have Hyes:Hid (left.testBit k=true->thB r left k=true->thT r left (k+1)=some k):=fun h h2=>thT_yes h h2
     have hthB:thB r left k=(r k&&&left==0||(r k&&&left)|||2^k==left):=rfl;have hsub:left.testBit k=true->(((r k&&&left)|||2^k=left)↔(r k&&&left=left-2^k)):=fun hb=>thB_sub hb hirr
     obtain⟨o,ho⟩: ∃o,o=thT r left k:=⟨_,rfl⟩;rw[<-ho] at Hno ⊢;obtain⟨x,hx⟩: ∃x,x=r k:=⟨_,rfl⟩;rw[<-hx] at p0 hr hthB hsub;have hand:x&&&left<128:=Nat.lt_of_le_of_lt Nat.and_le_left hr;have E2:=i64_and_nat x left (by omega) (by omega);have E1:=and_one_i64 (left:Int) k (by omega) (by omega);rw[Int.toNat_natCast] at E1;clear hx ho hirr;cases hb:left.testBit k
     ·rw[hb] at E1;have Hs:=hh_ (Hno.out (.inl hb));obtain⟨y,hy⟩: ∃y,y=x&&&left:=⟨_,rfl⟩;rw[<-hy] at E2 hand;clear hb hsub hthB hy;go_wp2;go_roundw;case rel=>exact⟨k+1,t,by omega,by go_num,by rw[Hs.out],rfl,by first|rfl|trivial⟩
      case measure=>simp[intOf]<;>omega
     ·rw[hb] at E1;have hsb:=hsub hb;have hz:=bit_ge hb;obtain⟨z,hz'⟩: ∃z,z=2^k:=⟨_,rfl⟩;have pv:IntKind.i64.wrap ((2:Int)^k)=(z:Int):=by rw[pow_shl k (by omega),hz'];simp
      rw[<-hz'] at hz hsb hthB;have s3:IntKind.i64.wrap ((left:Int)-(z:Int))=((left-z:Nat):Int):=by rw[Go.IntWalk.i64_in _ (by omega)];omega
      obtain⟨y,hy⟩: ∃y,y=left-z:=⟨_,rfl⟩;rw[<-hy] at s3 hsb;obtain⟨n0,hn0⟩: ∃n0,n0=x&&&left:=⟨_,rfl⟩;rw[<-hn0] at E2 hand hsb hthB;clear hz' hsub hn0;by_cases h1:n0=0
      ·have Hs:=hh_ (Hyes.out hb (by rw[hthB,h1];rfl));have d1:((n0:Int)==0)=true:=by simp;omega
       have d2:((n0:Int) !=0)=false:=by simp;omega
       clear hb hy hsb hthB h1;go_wp2;go_roundw;case rel=>exact⟨k+1,false,by omega,by go_num,by rw[Hs.out];rfl,rfl,by first|rfl|trivial⟩
       case measure=>simp[intOf]<;>omega
      ·have d1:((n0:Int)==0)=false:=by simp;omega
       have d2:((n0:Int) !=0)=true:=by simp;omega
       by_cases h2:n0=y
       ·have Hs:=hh_ (Hyes.out hb (by rw[hthB,beq_iff_eq.2 (hsb.2 h2),Bool.or_true]));have d3:((n0:Int)==(y:Int))=true:=by simp;omega
        have d4:(n0=y)=True:=by simp[h2]
        clear hb hy hsb hthB h1 h2;go_wp2;go_roundw;case rel=>exact⟨k+1,true,by omega,by go_num,by rw[Hs.out];rfl,rfl,by first|rfl|trivial⟩
        case measure=>simp[intOf]<;>omega
       ·have Hs:=hh_ (Hno.out (.inr (by
         rw[hthB,Bool.or_eq_false_iff];exact⟨by simpa using h1,by simpa using fun h=>h2 (hsb.1 h)⟩)))
        have d3:((n0:Int)==(y:Int))=false:=by simp;omega
        have d4:(n0=y)=False:=by simp[h2]
        clear hb hy hsb hthB h1 h2;go_wp2;go_roundw;case rel=>exact⟨k+1,t,by omega,by go_num,by rw[Hs.out],rfl,by first|rfl|trivial⟩
        case measure=>simp[intOf]<;>omega
    ·have hkm':k=m:=by omega
     have hth:thT r left k=thF r left:=by rw[hkm'];exact(thT_more Hll.out 7 hn7).symm
     rw[hth];have i2:(m:Int)<=k:=by omega
     clear hth hkm';cases ht:thF r left with
     |none=>
      have Hs:Hid ((thO r m).isSome=false):=by show _=_;rw[Hth.out,redL_none Hl0.out ht];rfl
      have HBz:=hh_ ((HB.alloc_ (Obj.cells #[] 3)).alloc_ (Obj.cells #[] 4));have hq:optI none= -1:=rfl;rw[hq];clear ht Hth hq;go_wp2;go_ret3;exact⟨_,_,by rw[Hs.out];rfl,HBz.below⟩
     |some v=>
      have htb:=thT_bit ht;have hq:optI (some v)=(v:Int):=rfl;rw[hq];clear hq;have hz:=bit_ge htb.2;have hxs:=xor_bit_sub htb.2;have Hth2:Hid ((thO r m).isSome=(redL (thF r) (left-2^v)).isSome):=by show _=_;rw[Hth.out,redL_some htb.2 ht,hxs,Option.isSome_map]
      have hv7:=htb.1;obtain⟨z,hz'⟩: ∃z,z=2^v:=⟨_,rfl⟩;have hzp:0<z:=by rw[hz'];exact Nat.two_pow_pos _
      have pv:IntKind.i64.wrap ((2:Int)^v)=(z:Int):=by rw[pow_shl v (by omega),hz'];simp
      rw[<-hz'] at hz Hth2;have s3:IntKind.i64.wrap ((left:Int)-(z:Int))=((left-z:Nat):Int):=by rw[Go.IntWalk.i64_in _ (by omega)];omega
      have i3:(0:Int)<=v:=by omega
      have HL1:Hid (Own (wr.alloc (Obj.cells #[.int .i64 (v:Int)] 3)) wr.heap.size (wr.heap.size+1) 3 1 (some ⟨wr.heap.size,0,none⟩) 1 1 (fun _=> .int .i64 (v:Int))):=
       .inr ⟨wr.heap.size,#[.int .i64 (v:Int)],rfl,nr_,Nat.lt_succ_self _,heap_alloc_new wr _,nr_,by unfold maxLen;omega,rfl,fun j hj=>by (have h0:j=0:=by omega);subst h0;rfl⟩
      have HR1:Hid (Rd (wr.alloc (Obj.cells #[.int .i64 (v:Int)] 3)) wr.heap.size A1 n c1 (fun j=>((q j:Nat):Int))):=HOI.rd.keep (br_.alloc nr_ _) nr_;have KL:Hid (∀z:World,Own (z.alloc (Obj.cells #[.bool t] 4)) z.heap.size (z.heap.size+1) 4 1 (some ⟨z.heap.size,0,none⟩) 1 1 (fun _=> .bool t)):=fun z=>
       .inr ⟨z.heap.size,#[.bool t],rfl,nr_,Nat.lt_succ_self _,heap_alloc_new z _,nr_,by unfold maxLen;omega,rfl,fun j hj=>by (have h0:j=0:=by omega);subst h0;rfl⟩
      have KR:Hid (∀z:World,Below wr.heap.size wr z->RdV (z.alloc (Obj.cells #[.bool t] 4)) wr.heap.size A2 n c2 (fun j=> .bool (d j))):=fun z hz=>HOJ.rdV.keep (bl_alloc hz) nr_
      have HA0:Hid (Below wr.heap.size wr (wr.alloc (Obj.cells #[.int .i64 (v:Int)] 3))):=br_.alloc nr_ _;have hzz:=HB.below.size;clear htb hxs ht hz' Hth;go_wp2_with (first|(at_builtin;(refine wpList_appendI _ rfl _ _ rfl rfl HL1.out rfl HR1.out (by simp) (by omega) (by omega) ?_;intro A3 c3 w3 hO3 hb3))|(at_builtin;(refine wpList_appendB _ rfl _ _ rfl rfl (KL.out w3) rfl (KR.out w3 (HA0.trans hb3)) (fun _=>rfl) (by simp) (by omega) (by omega) ?_;intro A4 c4 w4 hO4 hb4)))
      have HOI2:Hid (Own w4 w.heap.size w4.heap.size 3 1 A3 (1+n) c3 (fun j=> .int .i64 (((fun j=>if j<1 then v else q (j-1):Nat->Nat) j:Nat):Int))):=by
       have h4:Below w3.heap.size w3 w4:=(br_.alloc nr_ _).trans hb4;refine((hO3.keepB h4 nr_).mono hzz h4.size).congr (fun j hj=> ?_);unfold thenI;by_cases h1:j<1<;>simp[h1]
      have HOJ2:Hid (Own w4 w.heap.size w4.heap.size 4 1 A4 (1+n) c4 (fun j=> .bool ((fun j=>if j<1 then t else d (j-1):Nat->Bool) j))):=by
       have h3:=(HA0.trans hb3).size;refine(hO4.mono (by omega) nr_).congr (fun j hj=> ?_);unfold thenB;by_cases h1:j<1<;>simp[h1]
      have HR4:Hid (From w1 w4):=by
       have h3:=HA0.trans hb3;have h4:Below w3.heap.size w3 w4:=(br_.alloc nr_ _).trans hb4;exact⟨HR.below.trans ((h3.trans (h4.mono h3.size)).mono HR.below.size)⟩
      clear hO3 hb3 hO4 hb4 HL1 HR1 KL KR HA0;go_roundw;case rel=>exact⟨1+n,left-z,A3,A4,c3,c4,_,_,by omega,rfl,rfl,by first|rfl|go_num,HOI2,HOJ2,HR4,Hth2⟩
      case measure=>simp[intOf]<;>omega
end
section
variable (sz:Int) (A:Option Addr) (m c:Nat) (x:Nat->Int) (w:World)
set_option maxRecDepth 100000 in
theorem ThresholdOrder_sno (h:GA w A m c x) (hm:m<=1048576) (hok:okB sz m x=false):
 Calls Tryz.prog 112 #[.agg #[.int .i64 sz,.slice A m c]] w fun e w'=> ∃V1 V2,e=.returned (.tuple #[V1,V2,.bool (none:Option (List Nat)).isSome])/\Below w.heap.size w w':=by
 obtain⟨W,hW⟩: ∃W,W=(((w.alloc (Obj.cells #[.int .i64 sz,.slice A m c] 26)).alloc (Obj.cells #[] 3)).alloc (Obj.cells #[] 4)):=⟨_,rfl⟩;have HB:Hid (From w W):=by rw[hW];exact((From.alloc _ _).alloc_ _).alloc_ _
 have HK:=hh_ (h.keep HB.below);have HC:Hid (GC W w.heap.size sz A m c):=by rw[hW];exact(GC.new _ _ _ _ _).keep ((br_.alloc nr_ _).alloc (by simp) _)
 have HW:=hh_ hW;have KF:Hid (Calls Tryz.prog 39 #[.agg #[.int .i64 sz,.slice A m c]] W fun e w'=>e=.returned (.bool false)/\Below W.heap.size W w'):=by
  have:=IsGraph_sany sz A m c x W W.heap.size HK.rd nr_ hm;rwa [hok] at this
 clear hW h hok;go_enter Tryz.func112,Tryz.ntmps112;obtain⟨e0,e1⟩:=gc_ HC;go_wp2_with fail
 rw[<-HW.out];refine(KF.out).mono ?_;rintro e w1 ⟨rfl,hb1⟩;clear HW;clear e0 e1;obtain⟨HB,HK,HC,e0,e1⟩:=kC_ HB HK HC hb1;clear hb1;clear KF;go_wp2;go_ret3;exact⟨_,_,rfl,HB.below⟩
set_option maxRecDepth 100000 in
theorem IsThreshold_s (h:GA w A m c x) (hm:m<=1048576):
 Calls Tryz.prog 53 #[.agg #[.int .i64 sz,.slice A m c]] w fun e w'=>e=.returned (.bool (toB sz m x))/\Below w.heap.size w w':=by
 obtain⟨W,hW,HB,HK,HC⟩:=gaW sz h;have HW:=hh_ hW;clear hW h;go_enter Tryz.func53,Tryz.ntmps53;cases ho:okB sz m x
 ·have Hn:Hid (toB sz m x=false):=toB_no ho;have KF:=hh_ (ThresholdOrder_sno sz A m c x W HK hm ho);clear ho;obtain⟨e0,e1⟩:=gc_ HC;go_wp2_with fail
  rw[<-HW.out];refine(KF.out).mono ?_;rintro e w1 ⟨V1,V2,rfl,hb1⟩;clear HW;clear e0 e1;obtain⟨HB,HK,HC,e0,e1⟩:=kC_ HB HK HC hb1;clear hb1;clear KF;go_wp2;go_ret;exact⟨ret_bool Hn.symm,HB.below⟩
 obtain⟨_,es,_,_⟩:=okB_ok' ho;subst es;have Hn:Hid (toB (m:Int) m x=(thO (rw_ x) m).isSome):=toB_yes ho;have HG:Hid (GBox W w.heap.size A m c (rw_ x)):=⟨HK.gv ho,HC.c0,HC.c1,HC.lt⟩;have KF:=hh_ (ThresholdOrder_sv HG.gv);obtain⟨o,ho2⟩: ∃o,o=thO (rw_ x) m:=⟨_,rfl⟩;rw[<-ho2] at Hn KF;clear ho ho2 HC HK;cases o
 ·skip;obtain⟨e0,e1⟩:=gx_ HG;go_wp2_with fail
  rw[<-HW.out];refine(KF.out).mono ?_;rintro e w2 ⟨V1,V2,rfl,hb2⟩;clear HW;clear e0 e1;obtain⟨HB,HG,e0,e1⟩:=kG_ HB HG hb2;clear hb2;clear KF;go_wp2;go_ret;exact⟨ret_bool Hn.symm,HB.below⟩
 ·skip;obtain⟨e0,e1⟩:=gx_ HG;go_wp2_with fail
  rw[<-HW.out];refine(KF.out).mono ?_;rintro e w3 ⟨V1,V2,rfl,hb3⟩;clear HW;clear e0 e1;obtain⟨HB,HG,e0,e1⟩:=kG_ HB HG hb3;clear hb3;clear KF;go_wp2;go_ret;exact⟨ret_bool Hn.symm,HB.below⟩
end
set_option maxHeartbeats 6400000
set_option maxRecDepth 100000 in
theorem InducedOn_sv {A:Option Addr} {m c:Nat} {r:Nat->Nat} {s:Nat} {w:World} (h:GV w A m c r) (hs:s<2^m) (h0:s≠0):
 Calls Tryz.prog 155 #[.agg #[.int .i64 m,.slice A m c],.int .i64 s] w fun e w'=> ∃A' c',e=.returned (.tuple #[.agg #[.int .i64 (cn s:Nat),.slice A' (cn s) c'],.bool true])/\Own w' w.heap.size w'.heap.size 3 1 A' (cn s) c' (fun j=> .int .i64 (inR r s j:Nat))/\Below w.heap.size w w':=by
 have hn7:=h.vg.n7;have h128:=two_pow_le hn7;have HV:=hh_ h.vg;have Hs:=hh_ hs;have hc7:=cn_le s;have hc1:=cn_one (by omega) h0;have hne:((s:Int)==0)=false:=by simp;omega
 have Hat:Hid (∀i,(hi:i<(listN s).length)->(listN s)[i]=lsN s i):=fun i hi=>lsN_at hi
 have Hls:Hid (∀i,i<(listN s).length->lsN s i<m):=fun i hi=>(lsN_bit hs hi).1
 have Hall:Hid (∀i,bmR r s i (listN s).length=inR r s i):=fun i=>bmR_all r s i
 obtain⟨W,hW⟩: ∃W,W=((w.alloc (Obj.cells #[.int .i64 m,.slice A m c] 26)).alloc (Obj.cells #[.int .i64 0,.slice none 0 0] 26)):=⟨_,rfl⟩;have HB:Hid (From w W):=by rw[hW];exact(From.alloc _ _).alloc_ _
 have HG:Hid (GBox W w.heap.size A m c r):=by rw[hW];exact h.box.keep (br_.alloc nr_ _)
 have HQ:Hid (GC W (w.heap.size+1) 0 none 0 0):=by
  rw[hW];have:=GC.new (w.alloc (Obj.cells #[.int .i64 m,.slice A m c] 26)) 0 none 0 0;show GC _ _ _ _ _ _;simpa using this
 have HW:=hh_ hW;have KL:Hid (∀z,Calls Tryz.prog 177 #[.int .i64 s] z fun e w'=> ∃A c,e=.returned (.slice A (listN s).length c)/\ON z.heap.size w' A c (listN s)/\Below z.heap.size z w'):=fun z=>ListOf_sv s (by omega) z
 rw[show cn s=(listN s).length from rfl] at hc7 hc1 ⊢;obtain⟨n,hn⟩: ∃n,n=(listN s).length:=⟨_,rfl⟩;have Hn:=hh_ hn;clear hW h h0 hs;go_enter Tryz.func155,Tryz.ntmps155;obtain⟨e0,e1⟩:=gx_ HG;go_wp2_with fail
 rw[<-HW.out];clear HW;refine(IsSet_sv HG.gv Hs.out).mono ?_;rintro e w1 ⟨rfl,hb1⟩;clear e0 e1;replace HB:=hh_ (HB.keep hb1);replace HQ:=hh_ (HQ.keep hb1);replace HG:=hh_ (HG.keep hb1);clear hb1;obtain⟨e0,e1⟩:=gx_ HG;go_wp2_with fail
 refine(KL.out w1).mono ?_;rintro e w2 ⟨Al,cl,rfl,ho2,hb2⟩;have HL:=hh_ ho2;have hzl:=hb2.size;clear e0 e1;replace HB:=hh_ (HB.keep hb2);replace HQ:=hh_ (HQ.keep hb2);replace HG:=hh_ (HG.keep hb2);clear hb2 ho2 KL;obtain⟨e0,e1⟩:=gx_ HG;rw[<-hn] at hc7 hc1 ⊢;clear hn;obtain⟨W3,hW3⟩: ∃W3,W3=(w2.alloc (Obj.cells #[.int .i64 n,.slice none 0 0] 26)):=⟨_,rfl⟩;have hb3:Below w2.heap.size w2 W3:=by rw[hW3];exact br_.alloc nr_ _
 have HU3:Hid (GC W3 w2.heap.size n none (rwL r s 0).length 0):=by rw[hW3];exact GC.new _ _ _ _ _
 have HR3:Hid (Below w2.heap.size w2 W3):=hb3;have HO3:Hid (Own W3 (w2.heap.size+1) W3.heap.size 3 1 none (rwL r s 0).length 0 (ni (rwL r s 0))):=Own.nil _ _ _ _ _ _;have hz3:W3.heap.size=w2.heap.size+1:=by rw[hW3];simp
 have HW3:=hh_ hW3;clear hW3 hb3;go_wp2;rw[<-HW3.out];clear HW3 e0 e1;go_loopw [8] (fun iv wr=> ∃(i:Nat) (A':Option Addr) (c':Nat),i<=n/\iv=.int .i64 i/\Hid (Own wr (w2.heap.size+1) wr.heap.size 3 1 A' (rwL r s i).length c' (ni (rwL r s i)))/\Hid (GC wr w2.heap.size n A' (rwL r s i).length c')/\Hid (Below w2.heap.size w2 wr)) (fun iv _=>n-(intOf iv).toNat);case atStart=>exact⟨0,none,0,Nat.zero_le _,rfl,HO3,HU3,HR3⟩
 case round=>
  clear HO3 HU3 HR3 hz3;obtain⟨i,A',c',hi,rfl,HO,HU,HR⟩:=hrel;by_cases hin:i<n
  ·have i1:(i:Int)<n:=by omega
   have Hb0:Hid (bmR r s i 0=0):=bmR_zero r s i;obtain⟨wo,rfl⟩: ∃wo,wo=wr:=⟨_,rfl⟩;have HRf:Hid (From wo wo):=From.refl wo;have zq:=HR.size;go_wp2;go_loopw [9,10] (fun rv kv wr=> ∃k:Nat,k<=n/\kv=.int .i64 k/\rv=.int .i64 (bmR r s i k:Nat)/\Hid (From wo wr)) (fun _ kv _=>n-(intOf kv).toNat);case atStart=>exact⟨0,Nat.zero_le _,rfl,by rw[Hb0.out];rfl,HRf⟩
   case round=>
    clear HRf;obtain⟨k,hk,rfl,rfl,HRf⟩:=hrel;have HBq:Hid (Below w2.heap.size w2 wr):=HR.trans (HRf.below.mono zq);have hbl:=bmR_lt r s i k;have h2k:=two_pow_le (n:=k) (by omega);obtain⟨B,hB⟩: ∃B,B=bmR r s i k:=⟨_,rfl⟩;rw[<-hB] at hbl ⊢;have HBd:=hh_ hB;clear hB;by_cases hkn:k<n
    ·have i2:(k:Int)<n:=by omega
     have HLr:=hh_ (HL.keep HBq.out);obtain⟨b5,o5,rfl⟩:=HL.ln.addr (by rw[<-Hn.out];omega);have p0:=HLr.ln.at (j:=i) (by rw[<-Hn.out];omega);have p1:=HLr.ln.at (j:=k) (by rw[<-Hn.out];omega);rw[Hat.out i (by rw[<-Hn.out];omega)] at p0;rw[Hat.out k (by rw[<-Hn.out];omega)] at p1;obtain⟨y,hy⟩: ∃y,y=lsN s i:=⟨_,rfl⟩;obtain⟨u,hu⟩: ∃u,u=lsN s k:=⟨_,rfl⟩;have hym:y<m:=by rw[hy];exact Hls.out i (by rw[<-Hn.out];omega)
     have hum:u<m:=by rw[hu];exact Hls.out k (by rw[<-Hn.out];omega)
     have hbit:(r (lsN s i)).testBit (lsN s k)=(r y).testBit u:=by rw[hy,hu]
     rw[<-hy] at p0;rw[<-hu] at p1;have HGr:=hh_ (HG.keep HBq.out);clear hy hu HLr;cases hb:(r y).testBit u
     ·have KE:=hh_ (edge_b HGr.gv hym hum hb);have Hs1:Hid (B=bmR r s i (k+1)):=by show _=_;rw[bmR_no (hbit.trans hb),HBd.out]
      clear hb hbit;have e0:=HGr.c0;have e1:=HGr.c1;go_wp2;obtain⟨HSC,HZ0,HS1⟩:=hsc4 e0 e1 p0 p1;have KR1:Hid (∀z:World,Below wr.heap.size wr z->_):=fun z hz=>KE.out _ hz
      go_region_held3 (fun z=>Below wr.heap.size wr z/\z.cell? ⟨w.heap.size,0,none⟩=some (.int .i64 m)/\z.cell? ⟨w.heap.size,1,none⟩=some (.slice A m c)/\z.cell? ⟨b5,o5+i,none⟩=some (.int .i64 (y:Nat))/\z.cell? ⟨b5,o5+k,none⟩=some (.int .i64 (u:Nat)))
       (first|exact HS1.out|assumption|exact HSC.out _ hz1|fail)
       (first|(go_at_call 45;((with_reducible refine(KR1.out _ HZ0.out).mono ?_);rintro e w1 ⟨rfl,hb1⟩;have hz1:=bl_trans HZ0.out hb1)))
      clear e0 e1;replace HRf:=hh_ (HRf.keep hz1);replace HGr:=hh_ (HGr.keep hz1);clear hb1 hz1 HSC HZ0 HS1 KR1;have e0:=HGr.c0;have e1:=HGr.c1;go_wp2;go_roundw;case rel=>exact⟨k+1,by omega,by go_num,by rw[<-Hs1.out],HRf⟩
      case measure=>simp[intOf]<;>omega
     ·have KE:=hh_ (edge_b HGr.gv hym hum hb);have Hs1:Hid (B+2^k=bmR r s i (k+1)):=by show _=_;rw[bmR_yes (hbit.trans hb),HBd.out]
      obtain⟨z,hz⟩: ∃z,z=2^k:=⟨_,rfl⟩;have p2:IntKind.i64.wrap ((2:Int)^k)=(z:Int):=by rw[pow_shl k (by omega),hz];simp
      have s3:IntKind.i64.wrap ((B:Int)+(z:Int))=((B+z:Nat):Int):=by rw[Go.IntWalk.i64_in _ (by omega)];simp
      rw[<-hz] at Hs1;clear hb hbit hz;have e0:=HGr.c0;have e1:=HGr.c1;go_wp2;obtain⟨HSC,HZ0,HS1⟩:=hsc4 e0 e1 p0 p1;have KR1:Hid (∀z:World,Below wr.heap.size wr z->_):=fun z hz=>KE.out _ hz
      go_region_held3 (fun z=>Below wr.heap.size wr z/\z.cell? ⟨w.heap.size,0,none⟩=some (.int .i64 m)/\z.cell? ⟨w.heap.size,1,none⟩=some (.slice A m c)/\z.cell? ⟨b5,o5+i,none⟩=some (.int .i64 (y:Nat))/\z.cell? ⟨b5,o5+k,none⟩=some (.int .i64 (u:Nat)))
       (first|exact HS1.out|assumption|exact HSC.out _ hz2|fail)
       (first|(go_at_call 45;((with_reducible refine(KR1.out _ HZ0.out).mono ?_);rintro e w2 ⟨rfl,hb2⟩;have hz2:=bl_trans HZ0.out hb2)))
      clear e0 e1;replace HRf:=hh_ (HRf.keep hz2);replace HGr:=hh_ (HGr.keep hz2);clear hb2 hz2 HSC HZ0 HS1 KR1;have e0:=HGr.c0;have e1:=HGr.c1;go_wp2;go_roundw;case rel=>exact⟨k+1,by omega,by go_num,by rw[<-Hs1.out];first|rfl|exact congrArg (Value.int .i64) s3,HRf⟩
      case measure=>simp[intOf]<;>omega
    ·obtain rfl:n=k:=by omega
     have Hrow:Hid (B=inR r s i):=by show _=_;rw[HBd.out];have:=Hall.out i;rwa [<-Hn.out] at this
     have HOr:Hid (Own wr (w2.heap.size+1) wr.heap.size 3 1 A' (rwL r s i).length c' (ni (rwL r s i))):=(HO.keepB HRf.below nr_).mono nr_ HRf.below.size;have HUr:=hh_ (HU.keep HRf.below);have hql:=HUr.lt;have d1:=HUr.c1;have hlen:(rwL r s i).length<=7:=by rw[rwL_len];omega
     have HSn:Hid (rwL r s i++ [B]=rwL r s (i+1)):=by show _=_;rw[Hrow.out];exact rwL_snoc r s i
     obtain⟨T,hT⟩: ∃T,T=rwL r s i:=⟨_,rfl⟩;rw[<-hT] at HOr HUr d1 hlen HSn;clear hT HO HU;go_wp2_with (first|(at_builtin;(refine wpList_pushN wr rfl _ _ rfl (w2.heap.size+1) wr.heap.size A' c' T HOr.out (by omega) B rfl 1 wr.heap.size rfl rfl (by omega) ?_;intro g3 c3 w3 hO3 hb3;have m0:=up hb3 HUr.c0 (by omega);have m1:=up hb3 HUr.c1 (by omega);have m2:=upf hb3 HUr.f0 (by omega);have m3:=upf hb3 HUr.f1 (by omega))))
     have F:Fr w2.heap.size (w2.heap.size+1) w3 (w3.setCell ⟨w2.heap.size,1,none⟩ (.slice (some ⟨g3,0,none⟩) (T.length+1) c3)):=(Fr.refl _ _ w3).setCell (p:=⟨w2.heap.size,1,none⟩) nr_ (Nat.lt_succ_self _) _;have HOn:Hid (Own (w3.setCell ⟨w2.heap.size,1,none⟩ (.slice (some ⟨g3,0,none⟩) (T.length+1) c3)) (w2.heap.size+1) (w3.setCell ⟨w2.heap.size,1,none⟩ (.slice (some ⟨g3,0,none⟩) (T.length+1) c3)).heap.size 3 1 (some ⟨g3,0,none⟩) (rwL r s (i+1)).length c3 (ni (rwL r s (i+1)))):=by
      rw[<-HSn.out,List.length_append];exact(hO3.keep F (.inr nr_)).mono nr_ F.size
     have HUn:Hid (GC (w3.setCell ⟨w2.heap.size,1,none⟩ (.slice (some ⟨g3,0,none⟩) (T.length+1) c3)) w2.heap.size n (some ⟨g3,0,none⟩) (rwL r s (i+1)).length c3):=by
      rw[<-HSn.out,List.length_append];constructor<;>simp[go_sem,m0,m1,m2,m3]
     have HRn:Hid (Below w2.heap.size w2 (w3.setCell ⟨w2.heap.size,1,none⟩ (.slice (some ⟨g3,0,none⟩) (T.length+1) c3))):=(HBq.trans (hb3.mono (Nat.le_succ _))).setCell (p:=⟨w2.heap.size,1,none⟩) nr_ _;clear F hO3 hb3 m0 m1 m2 m3 d1 HOr HUr;go_wp2;go_roundw;case rel=>exact⟨i+1,_,_,by omega,by go_num,HOn,HUn,HRn⟩
     case measure=>simp[intOf]<;>omega
  ·obtain rfl:n=i:=by omega
   have hlen:(rwL r s n).length=n:=rwL_len r s n;have HOf:Hid (Own wr (w2.heap.size+1) wr.heap.size 3 1 A' n c' (fun j=> .int .i64 (inR r s j:Nat))):=by
    have:=HO.out;rw[hlen] at this;exact this.congr fun j hj=>by unfold ni;rw[rwL_at (by omega)]
   rw[hlen] at HU;have e0:=HU.c0;have e1:=HU.c1;have hql:=HU.lt;have hqq:=HQ.lt;have HQr:=hh_ (HQ.keep HR.out);have d0:=HQr.c0;have d1:=HQr.c1;have d2:=HQr.f0;have d3:=HQr.f1;have F:=fr2 wr (w.heap.size+1) (.int .i64 (n:Int)) (.slice A' n c');have hz1:=HB.below.size;have HBz:Hid (From w wr):=⟨HB.below.trans (HR.mono hz1)⟩;have HE:=(HBz.set (q:=w.heap.size+1) (Nat.le_succ _) (.int .i64 (n:Int)) (.slice A' n c')).below;have HOE:=(HOf.keep F (.inr (by omega))).mono (by omega:w.heap.size<=w2.heap.size+1) F.size;clear HO hlen;go_wp2;exact bodyPost_ret (v:=.tuple #[.agg #[.int .i64 (n:Int),.slice A' n c'],.bool true]) (by simp[results,Tryz.results155,go_sem, *]) rfl ⟨A',c',by rw[<-Hn.out],by rw[<-Hn.out];exact HOE,HE⟩
theorem step_appendG0 (w:World) {ops:Array Oper} {o:Oper} {a:Act} {K:Act->World->Prop} {Q:Exit->Act->World->Prop} {E:Prop} {lo hi B c m c2:Nat} {A A2:Option Addr} {x:Nat->Value} {y:Nat->Int} (hgd:o.guard=none) (s z:Operand)
 (ho:o.op=.call {callee:=.builtin .append,args:= #[s,z],argTypes:= #[24,24]})
 (hs:a.eval s=.slice A 0 c) (h:Own w lo hi 3 1 A 0 c x) (hz:a.eval z=.slice A2 m c2) (hr:Rd w B A2 m c2 y) (hlo:lo<=w.heap.size) (hm:m<=1073741824)
 (hK: ∀A' c' w',Own w' lo w'.heap.size 3 1 A' m c' (fun j=> .int .i64 (y j))->Below lo w w'->w.grownBy w' (Value.slice A 0 c).ownBlock->K (a.put o.dst (.slice A' m c')) w'):
 if Region.wanted o (yielded ops a.tmps)=true then Oper.wp Tryz.prog o a w K Q else E:=by
 refine step_appendG w hgd s z ho hs h hz hr hlo (by omega) hm ?_;intro A' c' w' h1 h2 h3;rw[Nat.zero_add] at h1 ⊢;exact hK A' c' w' (h1.congr (fun j _=>by unfold thenI;simp)) h2 h3
end Go.Proofs.YtfabbohijhjpcaaGreatDoor
