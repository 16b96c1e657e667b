/- Lemmas. -/
import Derived.Test.YtfabbohijhjpcaaGreatDoorRbOrlS
/-
-/
namespace Go.Proofs.YtfabbohijhjpcaaGreatDoor
open Go.RowKit
set_option maxHeartbeats 1000000
theorem EliminationOf_sx (sz:Int) (A:Option Addr) (m c:Nat) (x:Nat->Int) (w:World) (B:Nat) (h:Rd w B A m c x) (hB:B<=w.heap.size) (hm:m<=1048576):
 Calls Tryz.prog 107 #[.agg #[.int .i64 sz,.slice A m c]] w fun e w'=> ∃A' n' c',e=.returned (.tuple #[.slice A' n' c',.bool (chB sz m x)])/\Below w.heap.size w w':=
 (EliminationOf_sl sz A m c x w B h hB hm).mono fun e w' ⟨A',c',he,_,hb⟩=>⟨A',_,c',by rw[<-orG_chB];exact he,hb⟩
theorem IsChordal_sx (sz:Int) (A:Option Addr) (m c:Nat) (x:Nat->Int) (w:World) (B:Nat) (h:Rd w B A m c x) (hB:B<=w.heap.size) (hm:m<=1048576):
 Calls Tryz.prog 48 #[.agg #[.int .i64 sz,.slice A m c]] w fun e w'=>e=.returned (.bool (chB sz m x))/\Below w.heap.size w w':=by
 obtain⟨W,hW⟩: ∃W,W=(w.alloc (Obj.cells #[.int .i64 sz,.slice A m c] 26)):=⟨_,rfl⟩;have HB:Hid (Below w.heap.size w W):=by rw[hW];exact(br_.alloc nr_ _)
 have a0:w.heap.size<W.heap.size:=by rw[hW];simp
 have HK:=hh_ (h.keep (HB.mono hB) nr_);have HW:=hh_ hW;clear hW h;go_enter Tryz.func48,Tryz.ntmps48;go_wp2_with fail
 rw[<-HW.out];clear HW;refine(EliminationOf_sx sz A m c x W B HK (by omega) hm).mono ?_;rintro e w1 ⟨A',n',c',rfl,hb1⟩;have HB1:Hid (Below w.heap.size w w1):=HB.trans (hb1.mono (by omega));clear hb1 HK HB;go_wp2;go_ret;exact⟨rfl,HB1⟩
set_option maxHeartbeats 1600000
set_option maxRecDepth 100000 in
theorem SimpleOrder_s (sz:Int) (A:Option Addr) (m c:Nat) (x:Nat->Int) (w:World) (B:Nat) (h:Rd w B A m c x) (hB:B<=w.heap.size) (hm:m<=1048576):
 Calls Tryz.prog 114 #[.agg #[.int .i64 sz,.slice A m c]] w fun e w'=> ∃A' n' c',e=.returned (.tuple #[.slice A' n' c',.bool (sgB sz m x)])/\Below w.heap.size w w':=by
 obtain⟨W,hW⟩: ∃W,W=((w.alloc (Obj.cells #[.int .i64 sz,.slice A m c] 26)).alloc (Obj.cells #[] 3)):=⟨_,rfl⟩;have HB:Hid (Below w.heap.size w W):=by rw[hW];exact(br_.alloc nr_ _).alloc (by simp) _
 have HZ:Hid (w.heap.size+2=W.heap.size):=by rw[hW];simp[Hid]
 have a0:w.heap.size<W.heap.size:=by have:=HZ.out;omega
 have e0:W.cell? ⟨w.heap.size,0,none⟩=some (.int .i64 sz):=by rw[hW];simp[go_sem]
 have e1:W.cell? ⟨w.heap.size,1,none⟩=some (.slice A m c):=by rw[hW];simp[go_sem]
 have HG:Hid (W.heap[w.heap.size+1]? =some (.cells #[] 3 (0,0))):=by
  rw[hW];have:=heap_alloc_new (w.alloc (Obj.cells #[.int .i64 sz,.slice A m c] 26)) (Obj.cells #[] 3);simpa [Hid] using this
 have HK:=hh_ (h.keep (HB.mono hB) nr_);have HW:=hh_ hW;clear hW h;go_enter Tryz.func114,Tryz.ntmps114;go_wp2_with fail
 rw[<-HW.out];refine(IsGraph_sany sz A m c x W B HK (by omega) hm).mono ?_;rintro e w1 ⟨rfl,hb1⟩;have f0:=up hb1 e0 a0;have f1:=up hb1 e1 a0;have z1:=hb1.size;have HB1:Hid (Below w.heap.size w w1):=HB.trans (hb1.mono (by omega));have HK1:Hid (Rd w1 B A m c x):=HK.keep (hb1.mono (by omega)) nr_;have HG1:Hid (w1.heap[w.heap.size+1]? =some (.cells #[] 3 (0,0))):=(hb1.block _ (by have:=HZ.out;omega)).trans HG.out;clear hb1 e0 e1 HW HK HB HG;cases ho:okB sz m x
 ·have hno:Hid (sgB sz m x=false):=sgB_no ho;clear ho;go_wp2;go_ret2;exact⟨_,_,_,by rw[hno.out];rfl,HB1⟩
 ·have hok2:OkG sz m x:=by
   refine Classical.byContradiction fun h2=> ?_
   rw[okB_no h2] at ho;cases ho
  obtain⟨_,es,vg0,_⟩:=hok2;subst es;have hn1:=vg0.n1;have hn7:=vg0.n7;have h128:=two_pow_le hn7;have hpos:=Nat.two_pow_pos m;have Hok:=hh_ ho;have p1:=pow_shl m hn7;have p2:=two_pow_int m hn7;have hall:(2:Int)^m-1=((2^m-1:Nat):Int):=by rw[Int.ofNat_sub hpos];simp
  have Hall:=hh_ hall;have b1:w.heap.size<w1.heap.size:=by omega
  have HO:Hid (Own w1 (w.heap.size+1) w1.heap.size 3 1 (some ⟨w.heap.size+1,0,none⟩) 0 0 (ni [])):=
   .inr ⟨w.heap.size+1,#[],rfl,nr_,by have:=HZ.out;omega,HG1,nr_,by unfold maxLen;omega,rfl,fun j hj=>absurd hj (by omega)⟩
  clear ho vg0 hall HG1;go_wp2;rw[Hall.out];clear p1 p2;go_loopw [4,5] (fun l i wr=> ∃(left:Nat) (A':Option Addr) (c':Nat) (T:List Nat),l=.slice A' T.length c'/\i=.int .i64 left/\T.length+left+1<=2^m/\Hid (Own wr (w.heap.size+1) wr.heap.size 3 1 A' T.length c' (ni T))/\Hid (sgE (rw_ x) (2^m-1)=sgE (rw_ x) left)/\Hid (Below (w.heap.size+1) w1 wr)) (fun _ i _=>(intOf i).toNat);case atStart=>exact⟨2^m-1,_,0,[],rfl,rfl,by simp;omega,HO,rfl,br_⟩
  case round=>
   obtain⟨left,A',c',T,rfl,rfl,hkl,HY,HE,hbr⟩:=hrel;have zr:=hbr.size;have j0:=up hbr.out f0 (by omega);have j1:=up hbr.out f1 (by omega);by_cases hl0:left=0
   ·have hyes:Hid (sgB (m:Int) m x=true):=sgB_eq Hok.out (HE.trans (by rw[hl0];exact sgE_zero _));have hle:(left:Int)<=0:=by omega
    clear hl0;go_wp2;go_ret2;exact⟨_,_,_,by rw[hyes.out];rfl,HB1.trans (hbr.mono (by omega))⟩
   ·have hgt:(0:Int)<left:=by omega
    have hgd:decide (0<left)=true:=by simp;omega
    have Hl0:=hh_ hl0;clear hl0;go_wp2;obtain⟨wo,rfl⟩: ∃wo,wo=wr:=⟨_,rfl⟩;go_loopw [6,7] (fun b i wr=> ∃(t:Nat),t<=m/\i=.int .i64 ((t:Int)-1)/\((b=.int .i64 (-1)/\Hid (∀u,t<=u->left.testBit u=true->simB (rw_ x) u left=false))\/ ∃v:Nat,b=.int .i64 v/\v<m/\Hid (t<=v/\left.testBit v=true/\simB (rw_ x) v left=true/\ ∀u,t<=u->u<v->left.testBit u=true->simB (rw_ x) u left=false))/\Hid (Below wo.heap.size wo wr)) (fun _ i _=>(intOf i+1).toNat);case atStart=>exact⟨m,nr_,rfl,.inl ⟨rfl,fun u hu hb=>by have:=bit_lt (by omega:left<2^m) hb;omega⟩,br_⟩
    case round=>
     obtain⟨t,htm,rfl,hbest,hbw⟩:=hrel;have zw:=hbw.size;have i0:=up hbw.out j0 (by omega);have i1:=up hbw.out j1 (by omega);by_cases ht0:t=0
     ·have hneg:((t:Int)-1)<0:=by omega
      have HYw:Hid (Own wr (w.heap.size+1) wr.heap.size 3 1 A' T.length c' (ni T)):=(HY.keepB hbw.out nr_).mono nr_ zw;have HBw:Hid (Below (w.heap.size+1) w1 wr):=hbr.trans (hbw.mono (by omega));rcases hbest with ⟨rfl,hno⟩|⟨v,rfl,hvm,hyes⟩
      ·have hf:sgF (rw_ x) left=none:=sgF_no fun u _ hb=>hno.out u (by omega) hb
       have hno2:Hid (sgB (m:Int) m x=false):=sgB_eq Hok.out (HE.trans (sgE_none Hl0.out hf));clear hno hf HE ht0;go_wp2;go_ret2;exact⟨_,_,_,by rw[hno2.out];rfl,HB1.trans ((HBw.mono (by omega)).alloc (by omega) _)⟩
      ·obtain⟨_,hbit,hcl,hmin⟩:=hyes.out;have hf:sgF (rw_ x) left=some v:=sgF_least (by omega) hbit hcl (fun u hu hb=>hmin u (by omega) hu hb);have HE2:Hid (sgE (rw_ x) (2^m-1)=sgE (rw_ x) (left^^^2^v)):=HE.trans (sgE_some hf);have hlt:=xor_bit_lt hbit;have hxs:=(xor_bit hbit).2;have hE3:Hid ((left:Int)-2^v=((left^^^2^v:Nat):Int)):=by
        show _=_;have p3:((2^v:Nat):Int)=2^v:=by simp
        rw[<-p3];omega
       have p1:=pow_shl v (by omega);have p2:=two_pow_int v (by omega);have hge0:(0:Int)<=v:=by omega
       clear hyes hbit hcl hmin hf HE hxs ht0;go_wp2_with (first|(at_builtin;(refine wpList_pushN wr rfl _ _ rfl (w.heap.size+1) wr.heap.size A' c' T HYw.out (by omega) v rfl 1 wr.heap.size rfl rfl (by omega) ?_;intro g cap w3 hO2 hb2)))
       have H4:=hh_ hO2;have H5:Hid (Below (w.heap.size+1) w1 w3):=HBw.trans hb2;clear hO2 hb2;go_roundw;case rel=>exact⟨left^^^2^v,_,_,T++ [v],by rw[List.length_append];rfl,congrArg (Value.int .i64) hE3.out,by rw[List.length_append];simp;omega,by rw[List.length_append];exact H4.out,HE2,H5⟩
       case measure=>simp[intOf]<;>omega
     ·obtain⟨v,rfl⟩: ∃v,t=v+1:=⟨t-1,by omega⟩;have ev:(((v+1:Nat):Int)-1)=(v:Int):=by omega
      rw[ev];have HBst:=hh_ hbest;have hge0:(0:Int)<=v:=by omega
      have HK2:Hid (Rd wr B A m c x):=HK1.keep ((hbr.trans (hbw.mono (by omega))).mono (by omega)) nr_;have hleft:left<2^m:=by omega
      have hBw:B<=wr.heap.size:=by omega
      have KS:=hh_ (IsSimple_sv (v:=v) (GV.of HK2 hBw Hok.out) hleft (by omega));clear ev ht0 hbest;go_wp2_with fail
      refine KS.mono ?_;rintro e w3 ⟨rfl,hb3⟩;have HB3:Hid (Below wo.heap.size wo w3):=hbw.trans (hb3.mono zw);clear hb3 i0 i1 HK2 KS;cases hcl:simB (rw_ x) v left
      ·have Hc:=hh_ hcl;clear hcl;go_wp2;refine⟨⟨v,by omega,rfl,?_,HB3⟩,by simp[intOf]<;>omega⟩;rcases HBst.out with ⟨rfl,hno⟩|⟨bv,rfl,hbm,hyes⟩
       ·refine .inl ⟨rfl,fun u hu hb=> ?_⟩;by_cases huv:u=v
        ·subst huv;exact Hc.out
        ·exact hno.out u (by omega) hb
       ·refine .inr ⟨bv,rfl,hbm,by have:=hyes.out.1;omega,hyes.out.2.1,hyes.out.2.2.1,fun u hu hub hb=> ?_⟩;by_cases huv:u=v
        ·subst huv;exact Hc.out
        ·exact hyes.out.2.2.2 u (by omega) hub hb
      ·have Hc:=hh_ hcl;have Hb:Hid (left.testBit v=true):=by
        show _=_;cases h:left.testBit v
        ·rw[sim_out h] at hcl;cases hcl
        ·rfl
       clear hcl;go_wp2;refine⟨⟨v,by omega,rfl,?_,HB3⟩,by simp[intOf]<;>omega⟩;exact .inr ⟨v,rfl,by omega,nr_,Hb.out,Hc.out,fun u hu hub _=>by omega⟩
theorem IsStronglyChordal_s (sz:Int) (A:Option Addr) (m c:Nat) (x:Nat->Int) (w:World) (B:Nat) (h:Rd w B A m c x) (hB:B<=w.heap.size) (hm:m<=1048576):
 Calls Tryz.prog 55 #[.agg #[.int .i64 sz,.slice A m c]] w fun e w'=>e=.returned (.bool (sgB sz m x))/\Below w.heap.size w w':=by
 obtain⟨W,hW⟩: ∃W,W=(w.alloc (Obj.cells #[.int .i64 sz,.slice A m c] 26)):=⟨_,rfl⟩;have HB:Hid (Below w.heap.size w W):=by rw[hW];exact(br_.alloc nr_ _)
 have a0:w.heap.size<W.heap.size:=by rw[hW];simp
 have HK:=hh_ (h.keep (HB.mono hB) nr_);have HW:=hh_ hW;clear hW h;go_enter Tryz.func55,Tryz.ntmps55;go_wp2_with fail
 rw[<-HW.out];clear HW;refine(SimpleOrder_s sz A m c x W B HK (by omega) hm).mono ?_;rintro e w1 ⟨A',n',c',rfl,hb1⟩;have HB1:Hid (Below w.heap.size w w1):=HB.trans (hb1.mono (by omega));clear hb1 HK HB;go_wp2;go_ret;exact⟨rfl,HB1⟩
structure Clm where
 K:Int
 s:Int
 A0:Option Addr
 n0:Nat
 c0:Nat
 x0:Nat->Int
 t:ByteArray
 A1:Option Addr
 n1:Nat
 c1:Nat
 x1:Nat->Int
 A2:Option Addr
 n2:Nat
 c2:Nat
 x2:Nat->Int
 A3:Option Addr
 c3:Nat
 D:List Dsc
section
variable {w w':World} {lo hi lo' hi' B B':Nat} {k j:Clm}
end
structure KB (w:World) (q:Nat) (k:Clm):Prop where
 c0:w.cell? ⟨q,0,none⟩=some (.int .i64 k.K)
 c1:w.cell? ⟨q,1,none⟩=some (.int .i64 k.s)
 c2:w.cell? ⟨q,2,none⟩=some (.slice k.A0 k.n0 k.c0)
 c3:w.cell? ⟨q,3,none⟩=some (.string k.t)
 c4:w.cell? ⟨q,4,none⟩=some (.slice k.A1 k.n1 k.c1)
 c5:w.cell? ⟨q,5,none⟩=some (.slice k.A2 k.n2 k.c2)
 c6:w.cell? ⟨q,6,none⟩=some (.slice k.A3 k.D.length k.c3)
 f0:w.frozen? ⟨q,0,none⟩=false
 f1:w.frozen? ⟨q,1,none⟩=false
 f2:w.frozen? ⟨q,2,none⟩=false
 f3:w.frozen? ⟨q,3,none⟩=false
 f4:w.frozen? ⟨q,4,none⟩=false
 f5:w.frozen? ⟨q,5,none⟩=false
 f6:w.frozen? ⟨q,6,none⟩=false
section
variable {w w':World} {q:Nat} {k j:Clm}
theorem KB.lt (h:KB w q k):q<w.heap.size:=World.block_lt_of_cell? _ _ h.c0
theorem KB.keep (h:KB w q k) (hb:Below w.heap.size w w'):KB w' q k:=
 ⟨up hb h.c0 h.lt,up hb h.c1 h.lt,up hb h.c2 h.lt,up hb h.c3 h.lt,up hb h.c4 h.lt,up hb h.c5 h.lt,up hb h.c6 h.lt,upf hb h.f0 h.lt,upf hb h.f1 h.lt,upf hb h.f2 h.lt,upf hb h.f3 h.lt,upf hb h.f4 h.lt,upf hb h.f5 h.lt,upf hb h.f6 h.lt⟩
end
set_option maxHeartbeats 1600000
section
variable {A:Option Addr} {m c:Nat} {r:Nat->Nat}
theorem SplitOf_sv {w:World} (h:GV w A m c r):
 Calls Tryz.prog 111 #[.agg #[.int .i64 m,.slice A m c]] w fun e w'=>e=.returned (lsV (slO r m))/\Below w.heap.size w w':=by
 have hn7:=h.vg.n7;have h128:=two_pow_le hn7;have hpos:=Nat.two_pow_pos m;have hpc:=pow_cast m;have p1:=pow_shl m hn7;obtain⟨W,hW,HB,HG⟩:=gbW h;have HW:=hh_ hW;clear hW h;obtain⟨e0,e1⟩:=gx_ HG;go_enter Tryz.func111,Tryz.ntmps111;go_wp2;rw[<-HW.out];clear HW;go_loopw [4] (fun i wr=> ∃k:Nat,k<=2^m/\i=.int .i64 k/\Hid (∀u,u<k->splB r m u=false)/\Hid (From W wr)) (fun i _=>2^m-(intOf i).toNat);case atStart=>exact⟨0,Nat.zero_le _,rfl,(fun u hu=>absurd hu (by omega)),From.refl _⟩
 case round=>
  obtain⟨k,hk,rfl,hall,HR⟩:=hrel;clear e0 e1;replace HB:=hh_ (HB.keep HR.below);replace HG:=hh_ (HG.keep HR.below);obtain⟨e0,e1⟩:=gx_ HG;go_wp2_with fail
  refine(IsGraph_sv HG.gv).mono ?_;rintro e w1 ⟨rfl,hb1⟩;clear e0 e1;replace HB:=hh_ (HB.keep hb1);replace HG:=hh_ (HG.keep hb1);replace HR:=hh_ (HR.keep hb1);clear hb1;obtain⟨e0,e1⟩:=gx_ HG;by_cases hlt:k<2^m
  ·have i1:(k:Int)<2^m:=by omega
   go_wp2_with fail
   refine(IsSplitPartition_sv HG.gv hlt).mono ?_;rintro e w2 ⟨rfl,hb2⟩;clear e0 e1;replace HB:=hh_ (HB.keep hb2);replace HG:=hh_ (HG.keep hb2);replace HR:=hh_ (HR.keep hb2);clear hb2;obtain⟨e0,e1⟩:=gx_ HG;cases hp:splB r m k
   ·have Hn:Hid (∀u,u<k+1->splB r m u=false):=fun u hu=>by
     by_cases huk:u<k
     ·exact hall.out u huk
     ·obtain rfl:u=k:=by omega
      exact hp
    clear hp;go_wp2;go_roundw;case rel=>exact⟨k+1,by omega,by go_num,Hn,HR⟩
    case measure=>simp[intOf];omega
   ·have Hn:Hid (slO r m=some k):=lsK_yes hlt hp hall.out;clear hp;go_wp2;go_ret2;exact⟨by rw[Hn.out];rfl,HB.below⟩
  ·have Hn:Hid (slO r m=none):=lsK_no fun u hu=>hall.out u (by omega)
   have i1:(2:Int)^m<=(k:Int):=by omega
   go_wp2;go_ret2;exact⟨by rw[Hn.out];rfl,HB.below⟩
end
section
variable (sz:Int) (A:Option Addr) (m c:Nat) (x:Nat->Int) (w:World)
theorem SplitOf_sno (h:GA w A m c x) (hm:m<=1048576) (hok:okB sz m x=false):
 Calls Tryz.prog 111 #[.agg #[.int .i64 sz,.slice A m c]] w fun e w'=>e=.returned (lsV none)/\Below w.heap.size w w':=by
 obtain⟨W,hW,HB,HK,HC⟩:=gaW sz h;have HW:=hh_ hW;have Ho:=hh_ hok;clear hW h hok;go_enter Tryz.func111,Tryz.ntmps111;go_wp2_with fail
 rw[<-HW.out];clear HW;go_wp2;go_loopw [4] (fun i wr=>i=.int .i64 0/\wr=W) (fun i _=>1);case atStart=>exact⟨rfl,rfl⟩
 case round=>
  obtain⟨rfl,rfl⟩:=hrel;obtain⟨e0,e1⟩:=gc_ HC;go_wp2_with fail
  refine(IsGraph_sany sz A m c x wr wr.heap.size HK.rd nr_ hm).mono ?_;rintro e w1 ⟨rfl,hb1⟩;rw[Ho.out];replace HB:=hh_ (HB.keep hb1);clear hb1;go_wp2;go_ret2;exact⟨rfl,HB.below⟩
set_option maxRecDepth 100000 in
theorem IsSplit_s (h:GA w A m c x) (hm:m<=1048576):
 Calls Tryz.prog 52 #[.agg #[.int .i64 sz,.slice A m c]] w fun e w'=>e=.returned (.bool (slB sz m x))/\Below w.heap.size w w':=by
 obtain⟨W,hW,HB,HK,HC⟩:=gaW sz h;have HW:=hh_ hW;clear hW h;go_enter Tryz.func52,Tryz.ntmps52;cases ho:okB sz m x
 ·have Hn:Hid (slB sz m x=false):=slB_no ho;have KF:=hh_ (SplitOf_sno sz A m c x W HK hm ho);clear ho;obtain⟨e0,e1⟩:=gc_ HC;go_wp2_with fail
  rw[<-HW.out];refine(KF.out).mono ?_;rintro e w1 ⟨rfl,hb1⟩;clear HW;clear e0 e1;obtain⟨HB,HK,HC,e0,e1⟩:=kC_ HB HK HC hb1;clear hb1;clear KF;rw[lsV_none];go_wp2;go_ret;exact⟨ret_bool Hn.symm,HB.below⟩
 obtain⟨_,es,_,_⟩:=okB_ok' ho;subst es;have Hn:Hid (slB (m:Int) m x=(slO (rw_ x) m).isSome):=slB_yes ho;have HG:Hid (GBox W w.heap.size A m c (rw_ x)):=⟨HK.gv ho,HC.c0,HC.c1,HC.lt⟩;have KF:=hh_ (SplitOf_sv HG.gv);obtain⟨o,ho2⟩: ∃o,o=slO (rw_ x) m:=⟨_,rfl⟩;rw[<-ho2] at Hn KF;clear ho ho2 HC HK;cases o
 ·skip;obtain⟨e0,e1⟩:=gx_ HG;go_wp2_with fail
  rw[<-HW.out];refine(KF.out).mono ?_;rintro e w2 ⟨rfl,hb2⟩;clear HW;clear e0 e1;obtain⟨HB,HG,e0,e1⟩:=kG_ HB HG hb2;clear hb2;clear KF;rw[lsV_none];go_wp2;go_ret;exact⟨ret_bool Hn.symm,HB.below⟩
 ·skip;obtain⟨e0,e1⟩:=gx_ HG;go_wp2_with fail
  rw[<-HW.out];refine(KF.out).mono ?_;rintro e w3 ⟨rfl,hb3⟩;clear HW;clear e0 e1;obtain⟨HB,HG,e0,e1⟩:=kG_ HB HG hb3;clear hb3;clear KF;rw[lsV_some];go_wp2;go_ret;exact⟨ret_bool Hn.symm,HB.below⟩
end
set_option maxHeartbeats 6400000
section
variable (sz:Int) (A:Option Addr) (m c:Nat) (x:Nat->Int) (Al:Option Addr) (n cl:Nat) (l:List Int) (w:World)
set_option maxRecDepth 100000 in
theorem IsInducedPath_s (h:GA w A m c x) (hl:LI w Al n cl l) (hm:m<=1048576) (hn:n<=1048576):
 Calls Tryz.prog 272 #[.agg #[.int .i64 sz,.slice A m c],.slice Al n cl] w fun e w'=>e=.returned (.bool (ipB sz m x l))/\Below w.heap.size w w':=by
 obtain⟨W,hW⟩: ∃W,W=(w.alloc (Obj.cells #[.int .i64 sz,.slice A m c] 26)):=⟨_,rfl⟩;have HB:Hid (From w W):=by rw[hW];exact From.alloc _ _
 have HK:=hh_ (h.keep HB.below);have HL:=hh_ (hl.keep HB.below);have HC:Hid (GC W w.heap.size sz A m c):=by rw[hW];exact GC.new _ _ _ _ _
 have HW:=hh_ hW;have HN:=hh_ hl.len;clear hW h hl;go_enter Tryz.func272,Tryz.ntmps272;obtain⟨e0,e1⟩:=gc_ HC;go_wp2_with fail
 rw[<-HW.out];refine(l4Distinct_z sz A m c x Al n cl l W HK HL.out hm hn).mono ?_;rintro e w1 ⟨rfl,hb1⟩;clear HW;clear e0 e1;replace HB:=hh_ (HB.keep hb1);replace HK:=hh_ (HK.keep hb1);replace HL:=hh_ (HL.keep hb1);replace HC:=hh_ (HC.keep hb1);clear hb1;obtain⟨e0,e1⟩:=gc_ HC;cases hv:vrB sz m x l
 ·have hno:Hid (ipB sz m x l=false):=by show _=_;unfold ipB;rw[ajB_bad hv,Bool.and_false]
  clear hv;go_wp2;go_ret;exact⟨ret_bool hno.symm,HB.below⟩
 ·obtain⟨ho,hV⟩:=vrB_parts hv;obtain⟨_,es,vg0,_⟩:=okB_ok' ho;subst es;have hn7:=vg0.n7;have HG:Hid (GV w1 A m c (rw_ x)):=HK.gv ho;have HV:=hh_ hV;have Hv:=hh_ hv;have hn7':n<=7:=by rw[HN.out];have:=hV.len;omega
  clear hv ho hV vg0;by_cases h0:n=0
  ·have hno:Hid (ipB (m:Int) m x l=false):=by show _=_;unfold ipB;rw[decide_eq_false (by rw[<-HN.out];omega)];rfl
   have i9:((n:Int)==0)=true:=by simp;omega
   go_wp2;go_ret;exact⟨ret_bool hno.symm,HB.below⟩
  have i9:((n:Int)==0)=false:=by simp;omega
  have h0p:0<n:=by omega
  clear h0;go_wp2;go_loopw [5] (fun k wr=> ∃K:Nat,K<=n/\k=.int .i64 K/\Hid (∀k,k<K-> ∀i,i<k->edZ x (l.getD i 0) (l.getD k 0)=pathJ i k)/\Hid (From w1 wr)) (fun k _=>n-(intOf k).toNat);case atStart=>exact⟨0,Nat.zero_le _,rfl,fun k hk=>absurd hk (by omega),From.refl _⟩
  case round=>
   obtain⟨K,hK,rfl,hall,HR⟩:=hrel;by_cases hlt:K<n
   ·have i1:(K:Int)<n:=by omega
    have HRo:=HR;have Hlt:=hh_ hlt;go_wp2;go_loopw [6] (fun i wz=> ∃j:Nat,j<=K/\i=.int .i64 j/\Hid (∀i,i<j->edZ x (l.getD i 0) (l.getD K 0)=pathJ i K)/\Hid (From w1 wz)) (fun i _=>K-(intOf i).toNat);case atStart=>exact⟨0,Nat.zero_le _,rfl,fun i hi=>absurd hi (by omega),HRo⟩
    case round=>
     clear HR HRo;obtain⟨j,hj,rfl,hin,HR⟩:=hrel;by_cases hjK:j<K
     ·have i2:(j:Int)<K:=by omega
      have HLr:=hh_ (HL.keep HR.below);have HGr:=hh_ (HG.keep HR.below);have HCr:=hh_ (HC.keep HR.below);have HBr:=hh_ (HB.keep HR.below);obtain⟨b2,o2,rfl⟩:=HLr.addr (by omega);have p0:=HLr.at (j:=j) (by omega);have p1:=HLr.at (j:=K) (by omega);have hmj:=getD_mem (l:=l) (k:=j) (by rw[<-HN.out];omega);have hmk:=getD_mem (l:=l) (k:=K) (by rw[<-HN.out];omega);obtain⟨a0,a1⟩:=HV.out.2 _ hmj;obtain⟨d0,d1⟩:=HV.out.2 _ hmk;obtain⟨u,hu⟩:=Int.eq_ofNat_of_zero_le a0;obtain⟨v,hvv⟩:=Int.eq_ofNat_of_zero_le d0;have Hed:Hid (edZ x (l.getD j 0) (l.getD K 0)=(rw_ x u).testBit v):=by show _=_;unfold edZ;rw[hu,hvv,Int.toNat_natCast,Int.toNat_natCast]
      rw[hu] at p0 a1;rw[hvv] at p1 d1;have hum:u<m:=by omega
      have hvm:v<m:=by omega
      have hsym:(rw_ x v).testBit u=(rw_ x u).testBit v:=HGr.vg.sym _ _ hvm hum;obtain⟨t,ht⟩: ∃t,t=(rw_ x u).testBit v:=⟨_,rfl⟩;rw[<-ht] at Hed hsym;have KE:Hid (∀z:World,Below wr.heap.size wr z->Calls Tryz.prog 45 #[.agg #[.int .i64 m,.slice A m c],.int .i64 v,.int .i64 u] z fun e w'=>e=.returned (.bool t)/\Below z.heap.size z w'):=fun z hz=>by
       have:=l2Edge_v (HGr.keep hz) hvm hum;rwa [hsym] at this
      have i3:(j:Int)<n:=by omega
      have i4:(K:Int)<n:=by omega
      have s1:IntKind.i64.wrap ((K:Int)-1)=(K:Int)-1:=Go.IntWalk.i64_in _ (by omega);have s2:IntKind.i64.wrap ((n:Int)-1)=(n:Int)-1:=Go.IntWalk.i64_in _ (by omega);clear hmj hmk hu hvv ht a0 d0 hsym;have e0:=HCr.c0;have e1:=HCr.c1;by_cases h1:j+1=K
      ·have q1:((j:Int)==(K:Int)-1)=true:=by simp;omega
       have HJ:Hid (pathJ j K=true):=by show _=_;unfold pathJ;simp;omega
       go_wp2;obtain⟨HSC,HZ0,HS1⟩:=hsc4 e0 e1 p0 p1;have KR1:Hid (∀z:World,Below wr.heap.size wr z->_):=fun z hz=>KE.out z hz
       go_region_held3 (fun z=>Below wr.heap.size wr z/\z.cell? ⟨w.heap.size,0,none⟩=some (.int .i64 m)/\z.cell? ⟨w.heap.size,1,none⟩=some (.slice A m c)/\z.cell? ⟨b2,o2+j,none⟩=some (.int .i64 u)/\z.cell? ⟨b2,o2+K,none⟩=some (.int .i64 v))
        (first|exact HS1.out|assumption|exact HSC.out _ hz2|fail)
        (first|(go_at_call 45;((with_reducible refine(KR1.out _ HZ0.out).mono ?_);rintro e w2 ⟨rfl,hb2⟩;have hz2:=bl_trans HZ0.out hb2)))
       clear e0 e1;replace HCr:=hh_ (HCr.keep hz2);replace HR:=hh_ (HR.keep hz2);replace HBr:=hh_ (HBr.keep hz2);clear hb2 hz2 HSC HZ0 HS1 KR1;have e0:=HCr.c0;have e1:=HCr.c1;cases t
       ·have hno:Hid (ajB (m:Int) m x l pathJ=false):=ajB_no (i:=j) (k:=K) hjK (by rw[<-HN.out];exact Hlt.out) (by rw[Hed.out,HJ.out];decide);have hno2:Hid (ipB (m:Int) m x l=false):=by show _=_;unfold ipB;rw[hno.out,Bool.and_false]
        go_wp2;go_ret;exact⟨ret_bool hno2.symm,HBr.below⟩
       ·go_wp2;go_roundw;case rel=>
         refine⟨j+1,by omega,by go_num,fun i hi=> ?_,HR⟩;by_cases hij:i<j
         ·exact hin.out i hij
         ·obtain rfl:i=j:=by omega
          rw[Hed.out,HJ.out]
        case measure=>simp[intOf]<;>omega
      ·have q1:((j:Int)==(K:Int)-1)=false:=by simp;omega
       have HJ:Hid (pathJ j K=false):=by show _=_;unfold pathJ;simp;omega
       go_wp2;obtain⟨HSC,HZ0,HS1⟩:=hsc4 e0 e1 p0 p1;have KR1:Hid (∀z:World,Below wr.heap.size wr z->_):=fun z hz=>KE.out z hz
       go_region_held3 (fun z=>Below wr.heap.size wr z/\z.cell? ⟨w.heap.size,0,none⟩=some (.int .i64 m)/\z.cell? ⟨w.heap.size,1,none⟩=some (.slice A m c)/\z.cell? ⟨b2,o2+j,none⟩=some (.int .i64 u)/\z.cell? ⟨b2,o2+K,none⟩=some (.int .i64 v))
        (first|exact HS1.out|assumption|exact HSC.out _ hz3|fail)
        (first|(go_at_call 45;((with_reducible refine(KR1.out _ HZ0.out).mono ?_);rintro e w3 ⟨rfl,hb3⟩;have hz3:=bl_trans HZ0.out hb3)))
       clear e0 e1;replace HCr:=hh_ (HCr.keep hz3);replace HR:=hh_ (HR.keep hz3);replace HBr:=hh_ (HBr.keep hz3);clear hb3 hz3 HSC HZ0 HS1 KR1;have e0:=HCr.c0;have e1:=HCr.c1;cases t
       ·go_wp2;go_roundw;case rel=>
         refine⟨j+1,by omega,by go_num,fun i hi=> ?_,HR⟩;by_cases hij:i<j
         ·exact hin.out i hij
         ·obtain rfl:i=j:=by omega
          rw[Hed.out,HJ.out]
        case measure=>simp[intOf]<;>omega
       ·have hno:Hid (ajB (m:Int) m x l pathJ=false):=ajB_no (i:=j) (k:=K) hjK (by rw[<-HN.out];exact Hlt.out) (by rw[Hed.out,HJ.out];decide);have hno2:Hid (ipB (m:Int) m x l=false):=by show _=_;unfold ipB;rw[hno.out,Bool.and_false]
        go_wp2;go_ret;exact⟨ret_bool hno2.symm,HBr.below⟩
     ·obtain rfl:j=K:=by omega
      go_wp2;go_roundw;case rel=>
       refine⟨j+1,by omega,by go_num,fun k hk i hi=> ?_,HR⟩;by_cases hkj:k<j
       ·exact hall.out k hkj i hi
       ·obtain rfl:k=j:=by omega
        exact hin.out i hi
      case measure=>simp[intOf]<;>omega
   ·have hyes:Hid (ajB (m:Int) m x l pathJ=true):=ajB_yes Hv.out fun k hk i hi=>hall.out k (by rw[<-HN.out] at hk;omega) i hi
    have hyes2:Hid (ipB (m:Int) m x l=true):=by show _=_;unfold ipB;rw[hyes.out,decide_eq_true (by rw[<-HN.out];omega)];rfl
    have i1:(n:Int)<=K:=by omega
    have HBr:=hh_ (HB.keep HR.below);go_wp2;go_ret;exact⟨ret_bool hyes2.symm,HBr.below⟩
end
set_option maxHeartbeats 6400000
theorem okG_pt {r:Nat->Nat} {m v:Nat} {l:List Nat}:okG (ptB r m) l v=ptB r m (l++ [v]):=by
 by_cases h:v∈l
 ·rw[okG_in h,ptB_dup];intro hn;rw[List.nodup_append] at hn;exact hn.2.2 v h v (by simp) rfl
 ·exact okG_out h
theorem l1In_y {n lo hi:Int} (w:World) (h1:lo<=n) (h2:n<=hi):Calls Tryz.prog 68 #[.int .i64 n,.int .i64 lo,.int .i64 hi] w fun e w'=>e=.returned (.bool true)/\Below w.heap.size w w':=
 (l1In_yes n lo hi w h1 h2).mono fun _ _ ⟨h1,h2⟩=>⟨h1,h2▸br_⟩
theorem l1In_z {n lo hi:Int} (w:World) (h:n<lo\/hi<n):Calls Tryz.prog 68 #[.int .i64 n,.int .i64 lo,.int .i64 hi] w fun e w'=>e=.returned (.bool false)/\Below w.heap.size w w':=
 (l1In_no n lo hi w h).mono fun _ _ ⟨h1,h2⟩=>⟨h1,h2▸br_⟩
theorem IsInducedPath_sv {A:Option Addr} {m c:Nat} {r:Nat->Nat} {w:World} (h:GV w A m c r) {Al:Option Addr} {cl:Nat} {l:List Nat} (hl:LN w Al cl l) (hlen:l.length<=7):
 Calls Tryz.prog 272 #[.agg #[.int .i64 m,.slice A m c],.slice Al l.length cl] w fun e w'=>e=.returned (.bool (ptB r m l))/\Below w.heap.size w w':=
 IsInducedPath_s m A m c _ Al l.length cl _ w h.ga hl.li (by have:=h.vg.n7;omega) (by omega)
set_option maxRecDepth 100000 in
theorem l4_s {A:Option Addr} {m c n:Nat} {r:Nat->Nat} (hn7:n<=7): ∀(j:Nat) (l:List Nat) (Al:Option Addr) (cl:Nat) (w:World) (lo:Nat),l.length+j=n->GV w A m c r->ON lo w Al cl l->lo<=w.heap.size->
 Calls Tryz.prog 188 #[.agg #[.int .i64 m,.slice A m c],.slice Al l.length cl,.int .i64 n,.bool false] w fun e w'=> ∃A' c',e=.returned (.tuple #[.slice A' ((seaG m (ptB r m) (fun _=>true) j l).getD []).length c',.bool (seaG m (ptB r m) (fun _=>true) j l).isSome])/\ON lo w' A' c' ((seaG m (ptB r m) (fun _=>true) j l).getD [])/\Below w.heap.size w w':=by
 intro j;induction j with
 |zero=>
  intro l Al cl w lo hlm h hO hlo;have heq:((l.length:Int)==(n:Int))=true:=by simp;omega
  have heq2:(l.length=n)=True:=by simp;omega
  have HO:=hh_ hO;have HS:Hid (seaG m (ptB r m) (fun _=>true) 0 l=some l):=rfl;clear hO hlm;obtain⟨W,hW,HB,HG⟩:=gbW h;have HW:=hh_ hW;clear hW h;obtain⟨e0,e1⟩:=gx_ HG;replace HO:=hh_ (HO.keep HB.below);go_enter Tryz.func188,Tryz.ntmps188;go_wp2_with fail
  rw[<-HW.out];go_wp2;go_ret2;exact⟨_,_,by rw[HS.out];rfl,by rw[HS.out];exact HO.out,HB.below⟩
 |succ j ih=>
  intro l Al cl w lo hlm h hO hlo;have IH:=hh_ ih;have hne:((l.length:Int)==(n:Int))=false:=by simp;omega
  have hne2:(l.length=n)=False:=by simp;omega
  have hm7:=h.vg.n7;have Hlm:=hh_ hlm;have hl7:l.length<=6:=by omega
  have HO:=hh_ hO;clear ih hO hlm;obtain⟨W,hW,HB,HG⟩:=gbW h;have HW:=hh_ hW;clear hW h;obtain⟨e0,e1⟩:=gx_ HG;replace HO:=hh_ (HO.keep HB.below);have hz:=HB.below.size;have HR0:Hid (From W W):=From.refl W;go_enter Tryz.func188,Tryz.ntmps188;go_wp2_with fail
  rw[<-HW.out];go_wp2;go_loopw [10] (fun i wr=> ∃v:Nat,v<=m/\i=.int .i64 v/\Hid (∀u,u<v->atG m (ptB r m) (fun _=>true) j l u=none)/\Hid (From W wr)) (fun i _=>m-(intOf i).toNat);case atStart=>exact⟨0,Nat.zero_le _,rfl,(fun u hu=>absurd hu (by omega)),HR0⟩
  case round=>
   clear HR0 e0 e1;obtain⟨v,hv,rfl,hall,HR⟩:=hrel;by_cases hvm:v<m
   ·have i1:(v:Int)<m:=by omega
    have HBr:=hh_ (HB.up HR.out);have HGr:=hh_ (HG.keep HR.below);have HOr:=hh_ (HO.keep HR.below);have HLr:Hid (LN wr Al cl l):=HOr.ln;have hzr:=HBr.below.size;have e0:=HGr.c0;have e1:=HGr.c1;go_wp2_with (first|(at_builtin;(refine wpList_copyN wr rfl _ _ rfl Al cl l HLr.out (by omega) wr.heap.size rfl rfl rfl ?_;intro A2 c2 w2 hO2 hb2))|(at_builtin;(refine wpList_pushN w2 rfl _ _ rfl wr.heap.size w2.heap.size A2 c2 l hO2 hb2.size v rfl 1 w2.heap.size rfl rfl (by omega) ?_;intro g3 c3 w3 hO3 hb3;replace hb3:=hb2.trans hb3;have m0:=(HGr.keep hb3).c0;have m1:=(HGr.keep hb3).c1;clear hO2 hb2)))
    have HOx:Hid (ON wr.heap.size w3 (some ⟨g3,0,none⟩) c3 (l++ [v])):=⟨by rw[List.length_append];exact hO3⟩;have HR3:=hh_ (HR.keep hb3);have HB3:=hh_ (HBr.keep hb3);have HG3:=hh_ (HGr.keep hb3);have HO3:=hh_ (HOr.keep hb3);have hla:(l++ [v]).length=l.length+1:=by rw[List.length_append];rfl
    have Hla:=hh_ hla;clear hO3 hb3 HBr HGr HOr HLr HR e0 e1 m0 m1;have e0:=HG3.c0;have e1:=HG3.c1;have Hok:Hid (okG (ptB r m) l v=ptB r m (l++ [v])):=okG_pt;have KU:=hh_ (IsInducedPath_sv HG3.gv HOx.ln (by rw[Hla.out];omega));rw[Hla.out] at KU;go_wp2_with fail
    refine(KU.out).mono ?_;rintro e w1 ⟨rfl,hb1⟩;clear e0 e1;replace HR3:=hh_ (HR3.keep hb1);replace HB3:=hh_ (HB3.keep hb1);replace HO3:=hh_ (HO3.keep hb1);replace HOx:=hh_ (HOx.keep hb1);replace HG3:=hh_ (HG3.keep hb1);clear hb1;have e0:=HG3.c0;have e1:=HG3.c1;cases hu:ptB r m (l++ [v])
    ·have Hno:Hid (atG m (ptB r m) (fun _=>true) j l v=none):=atG_no (Hok.trans hu);clear hu;go_wp2;go_roundw;case rel=>
      refine⟨v+1,by omega,by go_num,fun u hu=> ?_,HR3⟩;by_cases huv:u<v
      ·exact hall.out u huv
      ·obtain rfl:u=v:=by omega
       exact Hno.out
     case measure=>simp[intOf]<;>omega
    ·have Hyes:Hid (atG m (ptB r m) (fun _=>true) j l v=seaG m (ptB r m) (fun _=>true) j (l++ [v])):=atG_yes (Hok.trans hu);have KI:=hh_ (IH.out (l++ [v]) (some ⟨g3,0,none⟩) c3 w1 lo (by rw[Hla.out];have:=Hlm.out;omega) HG3.gv (HOx.mono (by omega)) (by have:=HB3.below.size;omega));rw[Hla.out] at KI;obtain⟨so,hso⟩: ∃so,so=seaG m (ptB r m) (fun _=>true) j (l++ [v]):=⟨_,rfl⟩;have Hso:=hh_ hso;rw[<-hso] at KI Hyes;clear hu hso HO3;go_wp2_with fail
     refine(KI.out).mono ?_;rintro e w2 ⟨A5,c5,rfl,ho5,hb2⟩;clear e0 e1;replace HR3:=hh_ (HR3.keep hb2);replace HB3:=hh_ (HB3.keep hb2);replace HG3:=hh_ (HG3.keep hb2);clear hb2;have e0:=HG3.c0;have e1:=HG3.c1;have HO5:=hh_ ho5;clear ho5 KI;cases so with
     |none=>
      go_wp2;go_roundw;case rel=>
       refine⟨v+1,by omega,by go_num,fun u hu=> ?_,HR3⟩;by_cases huv:u<v
       ·exact hall.out u huv
       ·obtain rfl:u=v:=by omega
        exact Hyes.out
      case measure=>simp[intOf]<;>omega
     |some x=>
      have Hs:Hid (seaG m (ptB r m) (fun _=>true) (j+1) l=some x):=seaG_some hvm Hyes.out hall.out;go_wp2;go_ret2;exact⟨_,_,by rw[Hs.out];rfl,by rw[Hs.out];exact HO5.out,HB3.below⟩
   ·have Hn:Hid (seaG m (ptB r m) (fun _=>true) (j+1) l=none):=seaG_none fun u hu=>hall.out u (by omega)
    have i1:(m:Int)<=v:=by omega
    have HBr:=hh_ (HB.up HR.out);have HGr:=hh_ (HG.keep HR.below);have e0:=HGr.c0;have hzr:=HBr.below.size;have HON:Hid (ON wr.heap.size (wr.alloc (Obj.cells #[] 3)) (some ⟨wr.heap.size,0,none⟩) 0 []):=ON.nil wr;have HBz:=hh_ (HBr.alloc_ (Obj.cells #[] 3));go_wp2;go_ret2;exact⟨_,_,by rw[Hn.out];rfl,by rw[Hn.out];exact HON.mono (by omega),HBz.below⟩
section
variable {A:Option Addr} {m c:Nat} {r:Nat->Nat}
set_option maxRecDepth 100000 in
theorem FindInducedPath_sv {w:World} (h:GV w A m c r) {n:Nat} (hn:1<=n) (hn7:n<=7):Calls Tryz.prog 173 #[.agg #[.int .i64 m,.slice A m c],.int .i64 n] w (lsQ w (ptO r m n)):=by
 have hm7:=h.vg.n7;obtain⟨W,hW,HB,HG⟩:=gbW h;have HW:=hh_ hW;clear hW h;obtain⟨e0,e1⟩:=gx_ HG;by_cases hnm:n<=m
 ·have HO:Hid (ptO r m n=seaG m (ptB r m) (fun _=>true) n []):=ptO_yes hnm;have i1:(1:Int)<=n:=by omega
  have i2:(n:Int)<=m:=by omega
  go_enter Tryz.func173,Tryz.ntmps173;go_wp2_with fail
  rw[<-HW.out];refine(IsGraph_sv HG.gv).mono ?_;rintro e w1 ⟨rfl,hb1⟩;clear HW;clear e0 e1;obtain⟨HB,HG,e0,e1⟩:=kG_ HB HG hb1;clear hb1;go_wp2_with fail
  refine(l1In_y w1 i1 i2).mono ?_;rintro e w2 ⟨rfl,hb2⟩;clear e0 e1;obtain⟨HB,HG,e0,e1⟩:=kG_ HB HG hb2;clear hb2;have HZ1:Hid (w.heap.size<=w2.heap.size):=HB.below.size;have HON:Hid (ON w2.heap.size (w2.alloc (Obj.cells #[] 3)) (some ⟨w2.heap.size,0,none⟩) 0 []):=ON.nil w2;have HG2:Hid (GBox (w2.alloc (Obj.cells #[] 3)) w.heap.size A m c r):=HG.keep (br_.alloc nr_ _);have HB2:Hid (From w (w2.alloc (Obj.cells #[] 3))):=HB.alloc_ _;have KI:=hh_ (l4_s hn7 n [] (some ⟨w2.heap.size,0,none⟩) 0 (w2.alloc (Obj.cells #[] 3)) w.heap.size (by simp) HG2.gv (HON.mono HZ1.out) HB2.below.size);rw[<-HO.out] at KI;clear HG2 HO;go_wp2_with fail
  refine KI.mono ?_;rintro e w3 ⟨A5,c5,rfl,ho5,hb5⟩;have HO5:=hh_ ho5;have HB5:Hid (From w w3):=HB2.keep hb5;clear ho5 hb5 KI HON HB2 e0 e1;go_wp2;go_ret2;exact⟨_,_,rfl,HO5.out,HB5.below⟩
 ·have HO:Hid (ptO r m n=none):=ptO_no hnm;have i2:(m:Int)<n:=by omega
  go_enter Tryz.func173,Tryz.ntmps173;go_wp2_with fail
  rw[<-HW.out];refine(IsGraph_sv HG.gv).mono ?_;rintro e w3 ⟨rfl,hb3⟩;clear HW;clear e0 e1;obtain⟨HB,HG,e0,e1⟩:=kG_ HB HG hb3;clear hb3;go_wp2_with fail
  refine(l1In_z w3 (.inr i2)).mono ?_;rintro e w4 ⟨rfl,hb4⟩;clear e0 e1;obtain⟨HB,HG,e0,e1⟩:=kG_ HB HG hb4;clear hb4;have HZ1:Hid (w.heap.size<=w4.heap.size):=HB.below.size;have HON:Hid (ON w4.heap.size (w4.alloc (Obj.cells #[] 3)) (some ⟨w4.heap.size,0,none⟩) 0 []):=ON.nil w4;have HB2:Hid (From w (w4.alloc (Obj.cells #[] 3))):=HB.alloc_ _;go_wp2;go_ret2;rw[HO.out];exact⟨_,_,rfl,HON.mono HZ1.out,HB2.below⟩
theorem FindPathOfFour_sv {w:World} (h:GV w A m c r):Calls Tryz.prog 110 #[.agg #[.int .i64 m,.slice A m c]] w (lsQ w (ptO r m 4)):=by
 obtain⟨W,hW,HB,HG⟩:=gbW h;have HW:=hh_ hW;clear hW h;obtain⟨e0,e1⟩:=gx_ HG;have KF:=hh_ (FindInducedPath_sv HG.gv (n:=4) (by omega) (by omega));have HZ:Hid (w.heap.size<=W.heap.size):=HB.below.size;go_enter Tryz.func110,Tryz.ntmps110;go_wp2_with fail
 rw[<-HW.out];refine(KF.out).mono ?_;rintro e w1 ⟨A',c',rfl,ho,hb1⟩;clear HW;replace HB:=hh_ (HB.keep hb1);clear hb1;have HO:=hh_ ho;clear ho;go_wp2;go_ret2;exact⟨_,_,rfl,HO.mono HZ.out,HB.below⟩
end
section
variable (sz:Int) (A:Option Addr) (m c:Nat) (x:Nat->Int) (w:World)
set_option maxRecDepth 100000 in
theorem FindInducedPath_sno (n:Nat) (h:GA w A m c x) (hm:m<=1048576) (hok:okB sz m x=false):
 Calls Tryz.prog 173 #[.agg #[.int .i64 sz,.slice A m c],.int .i64 n] w (lsQ w none):=by
 obtain⟨W,hW,HB,HK,HC⟩:=gaW sz h;have HW:=hh_ hW;have Ho:=hh_ hok;clear hW h hok;go_enter Tryz.func173,Tryz.ntmps173;obtain⟨e0,e1⟩:=gc_ HC;go_wp2_with fail
 rw[<-HW.out];clear HW;refine(IsGraph_sany sz A m c x W W.heap.size HK.rd nr_ hm).mono ?_;rintro e w1 ⟨rfl,hb1⟩;rw[Ho.out];clear e0 e1;obtain⟨HB,HK,HC,e0,e1⟩:=kC_ HB HK HC hb1;clear hb1;have HZ1:Hid (w.heap.size<=w1.heap.size):=HB.below.size;have HON:Hid (ON w1.heap.size (w1.alloc (Obj.cells #[] 3)) (some ⟨w1.heap.size,0,none⟩) 0 []):=ON.nil w1;have HB2:Hid (From w (w1.alloc (Obj.cells #[] 3))):=HB.alloc_ _;go_wp2;go_ret2;exact⟨_,_,rfl,HON.mono HZ1.out,HB2.below⟩
theorem FindPathOfFour_sno (h:GA w A m c x) (hm:m<=1048576) (hok:okB sz m x=false):
 Calls Tryz.prog 110 #[.agg #[.int .i64 sz,.slice A m c]] w (lsQ w none):=by
 obtain⟨W,hW,HB,HK,HC⟩:=gaW sz h;have HW:=hh_ hW;have KF:=hh_ (FindInducedPath_sno sz A m c x W 4 HK hm hok);clear hW h hok;have HZ:Hid (w.heap.size<=W.heap.size):=HB.below.size;go_enter Tryz.func110,Tryz.ntmps110;obtain⟨e0,e1⟩:=gc_ HC;go_wp2_with fail
 rw[<-HW.out];refine(KF.out).mono ?_;rintro e w1 ⟨A',c',rfl,ho,hb1⟩;clear HW;clear e0 e1;obtain⟨HB,HK,HC,e0,e1⟩:=kC_ HB HK HC hb1;clear hb1;have HO:=hh_ ho;clear ho;go_wp2;go_ret2;exact⟨_,_,rfl,HO.mono HZ.out,HB.below⟩
set_option maxRecDepth 100000 in
theorem IsCograph_s (h:GA w A m c x) (hm:m<=1048576):
 Calls Tryz.prog 51 #[.agg #[.int .i64 sz,.slice A m c]] w fun e w'=>e=.returned (.bool (cgB sz m x))/\Below w.heap.size w w':=by
 obtain⟨W,hW,HB,HK,HC⟩:=gaW sz h;have HW:=hh_ hW;clear hW h;go_enter Tryz.func51,Tryz.ntmps51;cases ho:okB sz m x
 ·have Hn:Hid (cgB sz m x=false):=cgB_no ho;have KF:=hh_ (FindPathOfFour_sno sz A m c x W HK hm ho);have Ho:=hh_ ho;clear ho;obtain⟨e0,e1⟩:=gc_ HC;go_wp2_with fail
  rw[<-HW.out];refine(KF.out).mono ?_;rintro e w1 ⟨A',c',rfl,_,hb1⟩;clear HW;clear e0 e1;obtain⟨HB,HK,HC,e0,e1⟩:=kC_ HB HK HC hb1;clear hb1;clear KF;go_wp2_with fail
  refine(IsGraph_sany sz A m c x w1 w1.heap.size HK.rd nr_ hm).mono ?_;rintro e w2 ⟨rfl,hb2⟩;rw[Ho.out];clear e0 e1;obtain⟨HB,HK,HC,e0,e1⟩:=kC_ HB HK HC hb2;clear hb2;go_wp2;go_ret;exact⟨ret_bool Hn.symm,HB.below⟩
 obtain⟨_,es,_,_⟩:=okB_ok' ho;subst es;have Hn:Hid (cgB (m:Int) m x= !(ptO (rw_ x) m 4).isSome):=cgB_yes ho;have HG:Hid (GBox W w.heap.size A m c (rw_ x)):=⟨HK.gv ho,HC.c0,HC.c1,HC.lt⟩;have KF:=hh_ (FindPathOfFour_sv HG.gv);obtain⟨o,ho2⟩: ∃o,o=ptO (rw_ x) m 4:=⟨_,rfl⟩;rw[<-ho2] at Hn KF;clear ho ho2 HC HK;cases o
 ·skip;obtain⟨e0,e1⟩:=gx_ HG;go_wp2_with fail
  rw[<-HW.out];refine(KF.out).mono ?_;rintro e w2 ⟨A',c',rfl,_,hb2⟩;clear HW;clear e0 e1;obtain⟨HB,HG,e0,e1⟩:=kG_ HB HG hb2;clear hb2;clear KF;go_wp2_with fail
  refine(IsGraph_sv HG.gv).mono ?_;rintro e w3 ⟨rfl,hb3⟩;clear e0 e1;obtain⟨HB,HG,e0,e1⟩:=kG_ HB HG hb3;clear hb3;go_wp2;go_ret;exact⟨ret_bool Hn.symm,HB.below⟩
 ·skip;obtain⟨e0,e1⟩:=gx_ HG;go_wp2_with fail
  rw[<-HW.out];refine(KF.out).mono ?_;rintro e w4 ⟨A',c',rfl,_,hb4⟩;clear HW;clear e0 e1;obtain⟨HB,HG,e0,e1⟩:=kG_ HB HG hb4;clear hb4;clear KF;go_wp2_with fail
  refine(IsGraph_sv HG.gv).mono ?_;rintro e w5 ⟨rfl,hb5⟩;clear e0 e1;obtain⟨HB,HG,e0,e1⟩:=kG_ HB HG hb5;clear hb5;go_wp2;go_ret;exact⟨ret_bool Hn.symm,HB.below⟩
end
end Go.Proofs.YtfabbohijhjpcaaGreatDoor
