/- Lemmas. -/
import Derived.Test.YtfabbohijhjpcaaGreatDoorRbSidP
namespace Go.Proofs.YtfabbohijhjpcaaGreatDoor
open Go.RowKit
set_option maxHeartbeats 6400000
theorem parts_c (m:Nat) (A:Option Addr) (c:Nat) (x:Nat->Int) (w:World) (B:Nat) (h:Rd w B A m c x) (hB:B<=w.heap.size) (hok:okB m m x=true):
 Calls Tryz.prog 246 #[.agg #[.int .i64 m,.slice A m c],.int .i64 ((2^m-1:Nat):Int)] w fun e w'=> ∃A' c' T,e=.returned (.slice A' T.length c')/\ON w.heap.size w' A' c' T/\PL (rw_ x) m 0 T/\T.length<=128/\Below w.heap.size w w':=by
 obtain⟨vg,hx⟩:=okB_vg hok;have hn7:=vg.n7;have h128:=two_pow_le hn7;obtain⟨W,hW⟩: ∃W,W=((w.alloc (Obj.cells #[.int .i64 m,.slice A m c] 26)).alloc (Obj.cells #[] 3)):=⟨_,rfl⟩;have HB:Hid (Below w.heap.size w W):=by rw[hW];exact(br_.alloc nr_ _).alloc (by simp) _
 have HZ:Hid (w.heap.size+2=W.heap.size):=by rw[hW];simp[Hid]
 have a0:w.heap.size<W.heap.size:=by have:=HZ.out;omega
 have e0:W.cell? ⟨w.heap.size,0,none⟩=some (.int .i64 m):=by rw[hW];simp[go_sem]
 have e1:W.cell? ⟨w.heap.size,1,none⟩=some (.slice A m c):=by rw[hW];simp[go_sem]
 have HO:Hid (Own W (w.heap.size+1) W.heap.size 3 1 (some ⟨w.heap.size+1,0,none⟩) 0 0 (ni [])):=by
  refine .inr ⟨w.heap.size+1,#[],rfl,nr_,by have:=HZ.out;omega,?_,nr_,by unfold maxLen;omega,rfl,fun j hj=>absurd hj (by omega)⟩;rw[hW];have:=heap_alloc_new (w.alloc (Obj.cells #[.int .i64 m,.slice A m c] 26)) (Obj.cells #[] 3);simpa using this
 have HK:=hh_ (h.keep (HB.mono hB) nr_);have HW:=hh_ hW;have Hok:=hh_ hok;have Hvg:=hh_ vg;have hpos:=Nat.two_pow_pos m;clear hW h hx vg hok;go_enter Tryz.func246,Tryz.ntmps246;go_wp2_with fail
 rw[<-HW.out];clear HW;go_loopw [1,5] (fun st l wr=> ∃(left:Nat) (A':Option Addr) (c':Nat) (T:List Nat),st=.int .i64 left/\l=.slice A' T.length c'/\left<2^m/\T.length+left<2^m/\Hid (PL (rw_ x) m left T)/\Hid (Own wr (w.heap.size+1) wr.heap.size 3 1 A' T.length c' (ni T))/\Hid (Below (w.heap.size+1) W wr)) (fun st _ _=>(intOf st).toNat);case atStart=>exact⟨2^m-1,_,0,[],rfl,rfl,by omega,by simp;omega,PL.start _ _,HO,br_⟩
 case round=>
  obtain⟨left,A',c',T,rfl,rfl,hl,hT,HN,HY,hbr⟩:=hrel;have zr:=hbr.size;have j0:=up hbr.out e0 (by omega);have j1:=up hbr.out e1 (by omega);by_cases hl0:left=0
  ·have hT8:T.length<=128:=by omega
   subst hl0;have HYw:Hid (ON w.heap.size wr A' c' T):=⟨HY.mono (Nat.le_succ _) nr_⟩;go_wp2;go_ret;exact⟨A',c',T,rfl,HYw.out,HN.out,hT8,HB.trans (hbr.mono (by omega))⟩
  ·have hne:((left:Int) !=0)=true:=by simp;omega
   have hlow:=low_sub (by omega:left<128) hl0;have hps:=part_sub (r:=rw_ x) (by omega:left<128) hl0;have hxl:=xor_sub_lt (by omega:left<128) hps.1 hps.2;have hnp:Hid (PL (rw_ x) m (left^^^part (rw_ x) left (low left)) (T++ [part (rw_ x) left (low left)])):=HN.step Hvg.out hl hl0;have E1:=low_bits left (by omega) hl0;have HK2:Hid (Rd wr B A m c x):=HK.keep (hbr.mono (by omega)) nr_;have hBw:B<=wr.heap.size:=by omega
   have hplt:=sub_lt hps.1 hl;have hand:left&&&part (rw_ x) left (low left)=part (rw_ x) left (low left):=by rw[Nat.and_comm];exact hps.1.and
   obtain⟨p,hp⟩: ∃p,p=part (rw_ x) left (low left):=⟨_,rfl⟩;obtain⟨lb,hlb⟩: ∃lb,lb=low left:=⟨_,rfl⟩;rw[<-hp] at hxl hplt hand hnp;have E2:=i64_andNot_nat left p (by omega) (by omega);rw[hand] at E2;have Hlow:=hh_ hlow;rw[<-hlb] at E1;have Hp:=hh_ hp;have Hlb:=hh_ hlb;have hx1:=hxl.1;clear hl0 hlow hps hp hlb hand hxl;go_wp2_with fail
   refine(partOf_i m A c x left lb wr B HK2 hBw Hok.out hl (by rw[Hlb.out];exact Hlow.out.1) (by rw[Hlb.out];exact Hlow.out.2)).mono ?_;rintro e w3 ⟨rfl,hb3⟩;rw[Hlb.out,<-Hp.out];have HY3:Hid (Own w3 (w.heap.size+1) w3.heap.size 3 1 A' T.length c' (ni T)):=(HY.keepB hb3 nr_).mono nr_ hb3.size;have z3:=hb3.size;have HB3:Hid (Below (w.heap.size+1) W w3):=hbr.trans (hb3.mono (by omega));clear hb3 hbr HY HK2 E1 j0 j1;go_wp2_with (first|(at_builtin;(refine wpList_pushN w3 rfl _ _ rfl (w.heap.size+1) w3.heap.size A' c' T HY3.out (by omega) p rfl 1 w3.heap.size rfl rfl (by omega) ?_;intro g cap w4 hO4 hb4)))
   have H4:=hh_ hO4;have H5:Hid (Below (w.heap.size+1) W w4):=HB3.trans hb4;clear hO4 hb4;go_roundw;case rel=>exact⟨left^^^p,_,_,T++ [p],rfl,by rw[List.length_append];rfl,by omega,by rw[List.length_append];simp;omega,hnp,by rw[List.length_append];exact H4.out,H5⟩
   case measure=>simp[intOf]<;>omega
theorem two_li (w:World) (a b:Int):LI (w.alloc (Obj.cells #[.int .i64 a,Value.int .i64 b] 3)) (some ⟨w.heap.size,0,none⟩) 2 2 [a,b]:=by
 refine⟨rfl,nr_,fun _=>⟨w.heap.size,0,rfl,by simp,fun j hj=> ?_⟩⟩;have:j=0\/j=1:=by omega
 rcases this with rfl|rfl<;>simp[go_sem]
set_option maxRecDepth 100000 in
theorem DistanceOf_v {A:Option Addr} {m c:Nat} {r:Nat->Nat} {w:World} (h:GV w A m c r) {u v:Nat} (hu:u<m) (hv:v<m):
 Calls Tryz.prog 247 #[.agg #[.int .i64 m,.slice A m c],.int .i64 u,.int .i64 v] w fun e w'=>e=.returned (.int .i64 (dsI r m u v))/\Below w.heap.size w w':=by
 have hn7:=h.vg.n7;have h128:=two_pow_le hn7;have HV:=hh_ h.vg;have hok:=h.ok;have hiv:ivB (m:Int) [(u:Int),(v:Int)]=true:=by
  unfold ivB;rw[List.all_eq_true];intro x hx;rw[List.mem_cons,List.mem_singleton] at hx;rcases hx with rfl|rfl<;>exact decide_eq_true ⟨by omega,by omega⟩
 obtain⟨W,hW⟩: ∃W,W=((w.alloc (Obj.cells #[.int .i64 m,.slice A m c] 26)).alloc (Obj.cells #[.int .i64 u,Value.int .i64 v] 3)):=⟨_,rfl⟩;have HB:Hid (From w W):=by rw[hW];exact(From.alloc _ _).alloc_ _
 have HG:Hid (GBox W w.heap.size A m c r):=by rw[hW];exact h.box.keep (br_.alloc nr_ _)
 have HL:Hid (LI W (some ⟨w.heap.size+1,0,none⟩) 2 2 [(u:Int),(v:Int)]):=by
  rw[hW];have:=two_li (w.alloc (Obj.cells #[.int .i64 m,.slice A m c] 26)) u v;have e:(w.alloc (Obj.cells #[.int .i64 m,.slice A m c] 26)).heap.size=w.heap.size+1:=by simp
  rw[e] at this;exact this
 have KV:Hid (Calls Tryz.prog 150 #[.agg #[.int .i64 m,.slice A m c],.slice (some ⟨w.heap.size+1,0,none⟩) 2 2] W fun e w'=>e=.returned (.bool true)/\Below W.heap.size W w'):=by
  have:=isVertex_z m A m c _ (some ⟨w.heap.size+1,0,none⟩) 2 2 [(u:Int),(v:Int)] W HG.gv.ga HL.out (by omega) (by omega);rw[hiv,hok] at this;exact this
 have HW:=hh_ hW;have hum:=Nat.pow_lt_pow_right (a:=2) (by omega) hu;have hpos:=Nat.two_pow_pos m;have Hsub:Hid (∀k,Sub (gro r (2^m-1) (2^u) k) (2^m-1)):=fun k=>gro_sub (full_sub_of hu) k
 have Hglt:Hid (∀k,gro r (2^m-1) (2^u) k<2^m):=fun k=>sub_lt (gro_sub (full_sub_of hu) k) (by omega)
 have Hgle:Hid (∀k,(∀j,j<k->gro r (2^m-1) (2^u) (j+1)≠gro r (2^m-1) (2^u) j)->k+1<=m):=fun k hk=>gro_le hn7 (by omega) (full_sub_of hu) (pow_ne u) hk
 have Hfix:Hid (∀k,gro r (2^m-1) (2^u) (k+1)=gro r (2^m-1) (2^u) k-> ∀j,k<=j->gro r (2^m-1) (2^u) j=gro r (2^m-1) (2^u) k):=fun k hk=>gro_fix hk
 have Hst:Hid (∀k,gro r (2^m-1) (2^u) (k+1)=gro r (2^m-1) (2^u) k|||nb r (gro r (2^m-1) (2^u) k)):=fun k=>by
  show ((gro r (2^m-1) (2^u) k|||nb r (gro r (2^m-1) (2^u) k))&&&(2^m-1))=_;rw[Nat.and_two_pow_sub_one_eq_mod];exact Nat.mod_eq_of_lt (Nat.or_lt_two_pow (Hglt.out k) (nb_lt (fun v hv=>HV.lt v hv) (Hglt.out k) 7))
 have Hyes:Hid (∀n,n<m->(gro r (2^m-1) (2^u) n).testBit v=true->(∀j,j<n->(gro r (2^m-1) (2^u) j).testBit v=false)->dsI r m u v=n):=fun n hn h1 h2=>dsI_yes hn h1 h2
 have Hno:Hid ((∀j,j<m->(gro r (2^m-1) (2^u) j).testBit v=false)->dsI r m u v= -1):=fun h=>dsI_no h
 have Hg0:Hid (gro r (2^m-1) (2^u) 0=2^u):=rfl;obtain⟨G,hG⟩: ∃G,G=gro r (2^m-1) (2^u):=⟨_,rfl⟩;obtain⟨D,hD⟩: ∃D,D=dsI r m u v:=⟨_,rfl⟩;rw[<-hG] at Hsub Hglt Hgle Hfix Hst Hyes Hno Hg0;rw[<-hD] at Hyes Hno ⊢;have p1:=pow_shl u (by omega);have h2:((2^u:Nat):Int)=2^u:=by simp
 have Hgc:Hid (((G 0:Nat):Int)=2^u):=by show _=_;rw[Hg0.out,h2]
 clear hW h hok hiv hG hD h2;go_enter Tryz.func247,Tryz.ntmps247;obtain⟨e0,e1⟩:=gx_ HG;go_wp2_with fail
 rw[<-HW.out];clear HW;refine KV.mono ?_;rintro e w1 ⟨rfl,hb1⟩;clear e0 e1;replace HB:=hh_ (HB.keep hb1);replace HG:=hh_ (HG.keep hb1);clear hb1 KV HL;obtain⟨e0,e1⟩:=gx_ HG;go_wp2;go_loopw [7,8] (fun a b wr=> ∃k:Nat,k<m/\a=.int .i64 (G k:Nat)/\b=.int .i64 k/\Hid (∀j,j<k->G (j+1)≠G j)/\Hid (∀j,j<k->(G j).testBit v=false)/\Hid (From w1 wr)) (fun _ b _=>m-(intOf b).toNat);case atStart=>exact⟨0,by omega,by rw[Hgc.out],rfl,(fun j hj=>absurd hj (by omega)),(fun j hj=>absurd hj (by omega)),From.refl _⟩
 case round=>
  obtain⟨k,hk,rfl,rfl,hgr,hall,HR⟩:=hrel;clear e0 e1;replace HB:=hh_ (HB.keep HR.below);replace HG:=hh_ (HG.keep HR.below);obtain⟨e0,e1⟩:=gx_ HG;have hlt:=Hglt.out k;have hst:=Hst.out k;obtain⟨s,hs⟩: ∃s,s=G k:=⟨_,rfl⟩;obtain⟨t,ht⟩: ∃t,t=G (k+1):=⟨_,rfl⟩;have htl:=Hglt.out (k+1);rw[<-ht] at hst htl;rw[<-hs] at hst hlt ⊢;have Hs:=hh_ hs;have Ht:=hh_ ht;clear hs ht;cases hb:s.testBit v
  ·have KH:=hh_ (has_q (s:=s) (v:=v) (by omega) (by omega) hb wr);have Hall:Hid (∀j,j<k+1->(G j).testBit v=false):=fun j hj=>by
    by_cases hjk:j<k
    ·exact hall.out j hjk
    ·obtain rfl:j=k:=by omega
     rw[<-Hs.out];exact hb
   clear hb;go_wp2_with fail
   refine KH.mono ?_;rintro e w' ⟨rfl,rfl⟩;have KN:=hh_ (neighbors_v HG.gv hlt);obtain⟨q,hq⟩: ∃q,q=nb r s:=⟨_,rfl⟩;have hql:q<128:=by rw[hq];exact Nat.lt_of_lt_of_le (nb_lt (fun v hv=>HV.lt v hv) hlt 7) h128
   rw[<-hq] at KN hst;have E1:=i64_or_nat s q (by omega) (by omega);rw[<-hst] at E1;clear hq hst KH;go_wp2_with fail
   refine(KN.out).mono ?_;rintro e w1 ⟨rfl,hb1⟩;clear e0 e1;replace HB:=hh_ (HB.keep hb1);replace HG:=hh_ (HG.keep hb1);replace HR:=hh_ (HR.keep hb1);clear hb1;obtain⟨e0,e1⟩:=gx_ HG;by_cases hts:t=s
   ·have d1:((t:Int)==(s:Int))=true:=by simp;omega
    have Hn:Hid (D= -1):=Hno.out fun j hj=>by
     by_cases hjk:j<k+1
     ·exact Hall.out j hjk
     ·rw[Hfix.out k (by rw[<-Hs.out,<-Ht.out,hts]) j (by omega)];exact Hall.out k (by omega)
    clear hts;go_wp2;go_ret;exact⟨ret_int Hn.symm,HB.below⟩
   ·have d1:((t:Int)==(s:Int))=false:=by simp;omega
    have Hgr:Hid (∀j,j<k+1->G (j+1)≠G j):=fun j hj=>by
     by_cases hjk:j<k
     ·exact hgr.out j hjk
     ·obtain rfl:j=k:=by omega
      rw[<-Hs.out,<-Ht.out];exact hts
    have hk1:k+1<m:=by have:=Hgle.out (k+1) Hgr.out;omega
    clear hts;go_wp2;go_roundw;case rel=>exact⟨k+1,hk1,by rw[<-Ht.out],by go_num,Hgr,Hall,HR⟩
    case measure=>simp[intOf]<;>omega
  ·have KH:=hh_ (has_q (s:=s) (v:=v) (by omega) (by omega) hb wr);have Hn:Hid (D=k):=Hyes.out k hk (by rw[<-Hs.out];exact hb) hall.out;clear hb hst;go_wp2_with fail
   refine KH.mono ?_;rintro e w' ⟨rfl,rfl⟩;go_wp2;go_ret;exact⟨ret_int Hn.symm,HB.below⟩
theorem parts_v {A:Option Addr} {m c:Nat} {r:Nat->Nat} {w:World} (h:GV w A m c r):
 Calls Tryz.prog 246 #[.agg #[.int .i64 m,.slice A m c],.int .i64 ((2^m-1:Nat):Int)] w fun e w'=> ∃A' c' T,e=.returned (.slice A' T.length c')/\ON w.heap.size w' A' c' T/\PL r m 0 T/\T.length<=128/\Below w.heap.size w w':=by
 have:=parts_c m A c (fun v=>(r v:Int)) w w.heap.size h.rd nr_ h.ok;rwa [rw_cast] at this
noncomputable def biB (sz:Int) (m:Nat) (x:Nat->Int):Bool:=okB sz m x&&(sdO (rw_ x) m).isSome
theorem biB_no {sz:Int} {m:Nat} {x:Nat->Int} (h:okB sz m x=false):biB sz m x=false:=by unfold biB;rw[h];rfl
theorem biB_yes {sz:Int} {m:Nat} {x:Nat->Int} (h:okB sz m x=true):biB sz m x=(sdO (rw_ x) m).isSome:=by unfold biB;rw[h];rfl
theorem evB_is {r:Nat->Nat} {m p v:Nat} (h:p=cmp r m v):evB r m v=decide ((dsI r m (fstN p) v).tmod 2=0):=by unfold evB;rw[<-h]
theorem take_get {T:List Nat} {i:Nat} (h:i<T.length):T.take (i+1)=T.take i++ [T.getD i 0]:=by
 rw[List.take_succ_eq_append_getElem h];simp[List.getD,h]
set_option maxRecDepth 100000 in
theorem SidesOf_v {A:Option Addr} {m c:Nat} {r:Nat->Nat} {w:World} (h:GV w A m c r):
 Calls Tryz.prog 166 #[.agg #[.int .i64 m,.slice A m c]] w fun e w'=>e=.returned (lsV (sdO r m))/\Below w.heap.size w w':=by
 have hn7:=h.vg.n7;have h128:=two_pow_le hn7;have HV:=hh_ h.vg;obtain⟨W,hW,HB,HG⟩:=gbW h;have HW:=hh_ hW;clear hW h;obtain⟨e0,e1⟩:=gx_ HG;go_enter Tryz.func166,Tryz.ntmps166;go_wp2_with fail
 rw[<-HW.out];refine(IsGraph_v HG.gv).mono ?_;rintro e w1 ⟨rfl,hb1⟩;clear HW;clear e0 e1;obtain⟨HB,HG,e0,e1⟩:=kG_ HB HG hb1;clear hb1;have HG1:=HG;obtain⟨HSC,HZ0,HS1⟩:=hsc2 e0 e1;have KR1:Hid (∀z:World,Below w1.heap.size w1 z->_):=fun z hz=>all_v (HG1.gv.keep hz)
 have KR2:Hid (∀z:World,Below w1.heap.size w1 z->_):=fun z hz=>parts_v (HG1.gv.keep hz)
 go_wp2;go_region_held3 (fun z=>Below w1.heap.size w1 z/\z.cell? ⟨w.heap.size,0,none⟩=some (.int .i64 m)/\z.cell? ⟨w.heap.size,1,none⟩=some (.slice A m c))
  (first|exact HS1.out|assumption|exact HSC.out _ hz3|exact HSC.out _ hz2|fail)
  (first|(go_at_call 225;((with_reducible refine(KR1.out _ HZ0.out).mono ?_);rintro e w2 ⟨rfl,hb2⟩;have hz2:=bl_trans HZ0.out hb2))|(go_at_call 246;((with_reducible refine(KR2.out _ hz2).mono ?_);rintro e w3 ⟨A3,c3,T,rfl,ho3,hpl,hT8,hb3⟩;have hz3:=bl_trans hz2 hb3)))
 clear e0 e1;replace HB:=hh_ (HB.keep hz3);replace HG:=hh_ (HG.keep hz3);clear hb2 hz2 hb3 hz3 HSC HZ0 HS1 KR1 KR2;obtain⟨e0,e1⟩:=gx_ HG;have HL:Hid (LN w3 A3 c3 T):=ho3.ln;have HP:=hh_ hpl;have Hfin:Hid (evT (evB r m) T=sdS r m):=hpl.fin HV.out;have Hzero:Hid (evT (evB r m) (T.take 0)=0):=rfl;have HGp:=HG;have HBp:=HB;clear ho3 hpl HG1;go_wp2;go_loopw [4,17] (fun a b wr=> ∃i:Nat,i<=T.length/\b=.int .i64 i/\a=.int .i64 (evT (evB r m) (T.take i):Nat)/\Hid (From w3 wr)) (fun _ b _=>T.length-(intOf b).toNat);case atStart=>exact⟨0,Nat.zero_le _,rfl,by rw[Hzero.out];rfl,From.refl _⟩
 case round=>
  clear e0 e1;obtain⟨i,hi,rfl,rfl,HR⟩:=hrel;have hSlt:evT (evB r m) (T.take i)<2^m:=evT_lt fun p hp=>HP.pt.lt p (List.mem_of_mem_take hp)
  obtain⟨S,hS⟩: ∃S,S=evT (evB r m) (T.take i):=⟨_,rfl⟩;rw[<-hS] at hSlt ⊢;have HS:=hh_ hS;clear hS;by_cases hil:i<T.length
  ·have i1:(i:Int)<T.length:=by omega
   have HLr:=hh_ (HL.keep HR.below);obtain⟨b3,o3,rfl⟩:=HL.addr (by omega);have p0:=HLr.cell hil;have hpm:T.getD i 0∈T:=by
    have:T.getD i 0=T[i]:=by simp[List.getD,hil]
    rw[this];exact List.getElem_mem hil
   obtain⟨p,hp⟩: ∃p,p=T.getD i 0:=⟨_,rfl⟩;rw[<-hp] at p0 hpm;have hplt:=HP.pt.lt p hpm;have hpne:=HP.pt.ne p hpm;have Hpis:Hid (∀v,p.testBit v=true->p=cmp r m v):=HP.pt.is p hpm;have Hnx:Hid (evT (evB r m) (T.take (i+1))=evL (evB r m) S (listN p)):=by show _=_;rw[take_get hil,<-hp,evT_snoc,HS.out]
   obtain⟨hfb,hfl⟩:=fst_in (by omega:p<128) hpne;have hfm:=bit_lt hplt hfb;have hl7:=listN_len p;have Hf0:Hid (∀(hj:0<(listN p).length),(listN p)[0]=fstN p):=fun hj=>by unfold fstN;simp[List.getD,hj]
   have HGr:=hh_ (HGp.keep HR.below);have HBr:=hh_ (HBp.up HR.out);clear hp hpm HLr;have e0:=HGr.c0;have e1:=HGr.c1;go_wp2_with fail
   refine(ListOf_v p (by omega) wr).mono ?_;rintro e w4 ⟨A5,c5,rfl,ho5,hb4⟩;have HL5:Hid (LN w4 A5 c5 (listN p)):=ho5.ln;clear e0 e1;replace HR:=hh_ (HR.keep hb4);replace HBr:=hh_ (HBr.keep hb4);replace HGr:=hh_ (HGr.keep hb4);clear hb4 ho5;have e0:=HGr.c0;have e1:=HGr.c1;have HR4:=HR;have HG4:=HGr;have HB4:=HBr;go_wp2;go_loopw [4,24] (fun a b wr=> ∃j:Nat,j<=(listN p).length/\b=.int .i64 j/\a=.int .i64 (evL (evB r m) S ((listN p).take j):Nat)/\Hid (From w4 wr)) (fun _ b _=>(listN p).length-(intOf b).toNat);case atStart=>exact⟨0,Nat.zero_le _,rfl,rfl,From.refl _⟩
   case round=>
    clear e0 e1 HR HGr HBr p0;obtain⟨j,hj,rfl,rfl,HRq⟩:=hrel;have hElt:evL (evB r m) S ((listN p).take j)<2^m:=evL_lt hSlt fun v hv=>bit_lt hplt (mem_listN.1 (List.mem_of_mem_take hv)).2
    have HRx:Hid (From w3 wr):=HR4.up HRq.out;by_cases hjl:j<(listN p).length
    ·have i2:(j:Int)<((listN p).length:Int):=by omega
     have HLr:=hh_ (HL5.keep HRq.below);obtain⟨b5,o5,rfl⟩:=HL5.addr (by omega);have p0:=HLr.at hjl;have hvb:=(listN_at hjl).2;have hvm:=bit_lt hplt hvb;have Hst:Hid (evL (evB r m) S ((listN p).take (j+1))=if evB r m (listN p)[j]=true then evL (evB r m) S ((listN p).take j)|||2^(listN p)[j] else evL (evB r m) S ((listN p).take j)):=by show _=_;rw[List.take_succ_eq_append_getElem hjl,evL_snoc]
     have hpv:=Hpis.out _ hvb;obtain⟨v,hv⟩: ∃v,v=(listN p)[j]:=⟨_,rfl⟩;rw[<-hv] at p0 hvm Hst hpv;have hev:=evB_is hpv;obtain⟨E,hE⟩: ∃E,E=evL (evB r m) S ((listN p).take j):=⟨_,rfl⟩;rw[<-hE] at hElt Hst ⊢;have HGr:=hh_ (HG4.keep HRq.below);have HBr:=hh_ (HB4.up HRq.out);obtain⟨f,hf⟩: ∃f,f=fstN p:=⟨_,rfl⟩;rw[<-hf] at hfm Hf0 hev;have KD:Hid (∀z:World,Below wr.heap.size wr z->Calls Tryz.prog 247 #[.agg #[.int .i64 m,.slice A m c],.int .i64 f,.int .i64 v] z fun e w'=>e=.returned (.int .i64 (dsI r m f v))/\Below z.heap.size z w'):=fun z hz=>DistanceOf_v (HGr.gv.keep hz) hfm hvm
     have KL:Hid (∀z:World,Calls Tryz.prog 223 #[.int .i64 (p:Int)] z fun e w'=> ∃g c,e=.returned (.slice (some ⟨g,0,none⟩) (listN p).length c)/\w'.cell? ⟨g,0,none⟩=some (.int .i64 (f:Nat))/\Below z.heap.size z w'):=fun z=>(ListOf_v p (by omega) z).mono fun e w' ⟨A,c,h1,h2,h3⟩=>by
      obtain⟨g,rfl,_⟩:=h2.own.at_ (by omega);refine⟨g,c,h1,?_,h3⟩;have:=h2.ln.at hfl;rwa [Hf0.out hfl,Nat.zero_add] at this
     have hrg:=dsI_range (r:=r) (m:=m) f v;obtain⟨D,hD⟩: ∃D,D=dsI r m f v:=⟨_,rfl⟩;rw[<-hD] at KD hrg hev;have i3:(0:Int)<((listN p).length:Int):=by omega
     have s1:IntKind.i64.wrap (D.tmod 2)=D.tmod 2:=by
      rcases (by omega:D= -1\/D=0\/D=1\/D=2\/D=3\/D=4\/D=5\/D=6) with rfl|rfl|rfl|rfl|rfl|rfl|rfl|rfl<;>decide
     clear hv hE hf hD HLr hpv hvb hrg;have e0:=HGr.c0;have e1:=HGr.c1;go_wp2;obtain⟨HSC,HZ0,HS1⟩:=hsc2 e0 e1;have KR1:Hid (∀z:World,Below wr.heap.size wr z->_):=fun z hz=>KL.out z
     have KR2:Hid (∀z:World,Below wr.heap.size wr z->_):=fun z hz=>KD.out _ hz
     refine wpH HS1.out (fun hHeld=> ?_);refine pcY 0 ?_;refine ptY ?_;refine pcY 5 ?_;refine w1H 2 (fun K hK=> ?_);go_simp;go_at_call 223;refine(KR1.out _ HZ0.out).mono ?_
     rintro e w4 ⟨g7,c7,rfl,h7c,hb4⟩;have hz4:=bl_trans HZ0.out hb4;refine hK.out _ _ (HSC.out _ hz4) (fun hHeld=> ?_);clear hK K;try simp only[Act.put,sl0,sl1,sl2]
     refine ptY ?_;refine w1H 4 (fun K hK=> ?_);go_simp;refine hK.out _ _ (HSC.out _ hz4) (fun hHeld=> ?_);clear hK K;try simp only[Act.put,sl0,sl1,sl2]
     refine w1H 6 (fun K hK=> ?_);go_simp;go_at_call 247;refine(KR2.out _ hz4).mono ?_
     rintro e w5 ⟨rfl,hb5⟩;have hz5:=bl_trans hz4 hb5;refine hK.out _ _ (HSC.out _ hz5) (fun hHeld=> ?_);clear hK K;try simp only[Act.put,sl0,sl1,sl2]
     iterate 2 (refine ptY ?_)
     refine wpAnyH_done (by kernel_rfl) ?_ _;clear e0 e1;replace HRq:=hh_ (HRq.keep hz5);replace HRx:=hh_ (HRx.keep hz5);replace HBr:=hh_ (HBr.keep hz5);replace HGr:=hh_ (HGr.keep hz5);clear hb4 hz4 hb5 hz5 HSC HZ0 HS1 KR1 KR2;have e0:=HGr.c0;have e1:=HGr.c1;cases hb:evB r m v
     ·have Hs1:Hid (evL (evB r m) S ((listN p).take (j+1))=E):=by show _=_;rw[Hst.out,hb];rfl
      have d1:(D.tmod 2==0)=false:=by rw[hev] at hb;simpa using hb
      clear hb hev;go_wp2;go_roundw;case rel=>exact⟨j+1,by omega,by go_num,by rw[Hs1.out],HRq⟩
      case measure=>simp[intOf]<;>omega
     ·have Hs1:Hid (evL (evB r m) S ((listN p).take (j+1))=E|||2^v):=by show _=_;rw[Hst.out,hb];rfl
      have d1:(D.tmod 2==0)=true:=by rw[hev] at hb;simpa using hb
      have h2v:=two_pow_le (n:=v) (by omega);obtain⟨z,hz⟩: ∃z,z=2^v:=⟨_,rfl⟩;have p1:IntKind.i64.wrap ((2:Int)^v)=(z:Int):=by rw[pow_shl v (by omega),hz];simp
      rw[<-hz] at Hs1 h2v;have E1:=i64_or_nat E z (by omega) (by omega);clear hb hev hz;go_wp2;go_roundw;case rel=>exact⟨j+1,by omega,by go_num,by rw[Hs1.out],HRq⟩
      case measure=>simp[intOf]<;>omega
    ·obtain rfl:(listN p).length=j:=by omega
     have Hs1:Hid (evL (evB r m) S ((listN p).take (listN p).length)=evT (evB r m) (T.take (i+1))):=by show _=_;rw[Hnx.out,List.take_length]
     rw[Hs1.out];go_wp2;go_roundw;case rel=>exact⟨i+1,by omega,by go_num,rfl,HRx⟩
     case measure=>simp[intOf]<;>omega
  ·obtain rfl:T.length=i:=by omega
   have Hsd:Hid (S=sdS r m):=by show _=_;rw[HS.out,List.take_length];exact Hfin.out
   have HGr:=hh_ (HGp.keep HR.below);have HBr:=hh_ (HBp.up HR.out);have E:=i64_andNot_nat (2^m-1) S (by omega) (by omega);rw[full_and hSlt] at E;have hcl:=comp_lt hn7 hSlt;have Hyes:Hid (indB r S=true->indB r ((2^m-1)^^^S)=true->sdO r m=some S):=fun h1 h2=>by unfold sdO;rw[<-Hsd.out,h1,h2];rfl
   have Hno1:Hid (indB r S=false->sdO r m=none):=fun h1=>by unfold sdO;rw[<-Hsd.out,h1];rfl
   have Hno2:Hid (indB r ((2^m-1)^^^S)=false->sdO r m=none):=fun h1=>by unfold sdO;rw[<-Hsd.out,h1,Bool.and_false];rfl
   obtain⟨t,ht⟩: ∃t,t=(2^m-1)^^^S:=⟨_,rfl⟩;obtain⟨F,hF⟩: ∃F,F=2^m-1:=⟨_,rfl⟩;have KA:Hid (∀z:World,Calls Tryz.prog 225 #[.agg #[.int .i64 m,.slice A m c]] z fun e w'=>e=.returned (.int .i64 (F:Nat))/\Below z.heap.size z w'):=by rw[hF];exact fun z=>all_any m A c z hn7
   rw[<-ht] at hcl Hyes Hno2 E;rw[<-hF] at E;have KI:Hid (∀z:World,Below wr.heap.size wr z->Calls Tryz.prog 248 #[.agg #[.int .i64 m,.slice A m c],.int .i64 (S:Int)] z fun e w'=>e=.returned (.bool (indB r S))/\Below z.heap.size z w'):=fun z hz=>IsIndependent_v (HGr.gv.keep hz) hSlt
   have KC:Hid (∀z:World,Below wr.heap.size wr z->Calls Tryz.prog 248 #[.agg #[.int .i64 m,.slice A m c],.int .i64 (t:Int)] z fun e w'=>e=.returned (.bool (indB r t))/\Below z.heap.size z w'):=fun z hz=>IsIndependent_v (HGr.gv.keep hz) hcl
   clear ht hF;have e0:=HGr.c0;have e1:=HGr.c1;cases hi:indB r S
   ·rw[hi] at KI;have Hn:=hh_ (Hno1.out hi);clear hi;go_wp2;obtain⟨HSC,HZ0,HS1⟩:=hsc2 e0 e1;have KR1:Hid (∀z:World,Below wr.heap.size wr z->_):=fun z hz=>KI.out _ hz
    refine wpH HS1.out (fun hHeld=> ?_);refine pcY 0 ?_;refine ptY ?_;refine w1H 2 (fun K hK=> ?_);go_simp;go_at_call 248;refine(KR1.out _ HZ0.out).mono ?_
    rintro e w6 ⟨rfl,hb6⟩;have hz6:=bl_trans HZ0.out hb6;refine hK.out _ _ (HSC.out _ hz6) (fun hHeld=> ?_);clear hK K;try simp only[Act.put,sl0,sl1,sl2]
    iterate 2 (refine ptY ?_)
    iterate 7 (refine ptN ?_)
    refine ptY ?_;refine wpAnyH_done (by kernel_rfl) ?_ _;clear e0 e1;replace HBr:=hh_ (HBr.keep hz6);replace HGr:=hh_ (HGr.keep hz6);clear hb6 hz6 HSC HZ0 HS1 KR1;have e0:=HGr.c0;have e1:=HGr.c1;go_wp2;go_ret2;exact⟨by rw[Hn.out];rfl,HBr.below⟩
   ·rw[hi] at KI;cases hc:indB r t
    ·rw[hc] at KC;have Hn:=hh_ (Hno2.out hc);clear hi hc;go_wp2;obtain⟨HSC,HZ0,HS1⟩:=hsc2 e0 e1;have KR1:Hid (∀z:World,Below wr.heap.size wr z->_):=fun z hz=>KI.out _ hz
     have KR2:Hid (∀z:World,Below wr.heap.size wr z->_):=fun z hz=>KA.out z
     have KR3:Hid (∀z:World,Below wr.heap.size wr z->_):=fun z hz=>KC.out _ hz
     refine wpH HS1.out (fun hHeld=> ?_);refine pcY 0 ?_;refine ptY ?_;refine w1H 2 (fun K hK=> ?_);go_simp;go_at_call 248;refine(KR1.out _ HZ0.out).mono ?_
     rintro e w7 ⟨rfl,hb7⟩;have hz7:=bl_trans HZ0.out hb7;refine hK.out _ _ (HSC.out _ hz7) (fun hHeld=> ?_);clear hK K;try simp only[Act.put,sl0,sl1,sl2]
     iterate 4 (refine ptY ?_)
     refine pcY 8 ?_;refine w1H 7 (fun K hK=> ?_);go_simp;go_at_call 225;refine(KR2.out _ hz7).mono ?_
     rintro e w8 ⟨rfl,hb8⟩;have hz8:=bl_trans hz7 hb8;refine hK.out _ _ (HSC.out _ hz8) (fun hHeld=> ?_);clear hK K;try simp only[Act.put,sl0,sl1,sl2]
     refine pcY 9 ?_;refine w1H 10 (fun K hK=> ?_);go_simp;go_at_call 248;refine(KR3.out _ hz8).mono ?_
     rintro e w9 ⟨rfl,hb9⟩;have hz9:=bl_trans hz8 hb9;refine hK.out _ _ (HSC.out _ hz9) (fun hHeld=> ?_);clear hK K;try simp only[Act.put,sl0,sl1,sl2]
     iterate 2 (refine ptY ?_)
     refine wpAnyH_done (by kernel_rfl) ?_ _;clear e0 e1;replace HBr:=hh_ (HBr.keep hz9);replace HGr:=hh_ (HGr.keep hz9);clear hb7 hz7 hb8 hz8 hb9 hz9 HSC HZ0 HS1 KR1 KR2 KR3;have e0:=HGr.c0;have e1:=HGr.c1;go_wp2;go_ret2;exact⟨by rw[Hn.out];rfl,HBr.below⟩
    ·rw[hc] at KC;have Hn:=hh_ (Hyes.out hi hc);clear hi hc;go_wp2;obtain⟨HSC,HZ0,HS1⟩:=hsc2 e0 e1;have KR1:Hid (∀z:World,Below wr.heap.size wr z->_):=fun z hz=>KI.out _ hz
     have KR2:Hid (∀z:World,Below wr.heap.size wr z->_):=fun z hz=>KA.out z
     have KR3:Hid (∀z:World,Below wr.heap.size wr z->_):=fun z hz=>KC.out _ hz
     refine wpH HS1.out (fun hHeld=> ?_);refine pcY 0 ?_;refine ptY ?_;refine w1H 2 (fun K hK=> ?_);go_simp;go_at_call 248;refine(KR1.out _ HZ0.out).mono ?_
     rintro e w10 ⟨rfl,hb10⟩;have hz10:=bl_trans HZ0.out hb10;refine hK.out _ _ (HSC.out _ hz10) (fun hHeld=> ?_);clear hK K;try simp only[Act.put,sl0,sl1,sl2]
     iterate 4 (refine ptY ?_)
     refine pcY 8 ?_;refine w1H 7 (fun K hK=> ?_);go_simp;go_at_call 225;refine(KR2.out _ hz10).mono ?_
     rintro e w11 ⟨rfl,hb11⟩;have hz11:=bl_trans hz10 hb11;refine hK.out _ _ (HSC.out _ hz11) (fun hHeld=> ?_);clear hK K;try simp only[Act.put,sl0,sl1,sl2]
     refine pcY 9 ?_;refine w1H 10 (fun K hK=> ?_);go_simp;go_at_call 248;refine(KR3.out _ hz11).mono ?_
     rintro e w12 ⟨rfl,hb12⟩;have hz12:=bl_trans hz11 hb12;refine hK.out _ _ (HSC.out _ hz12) (fun hHeld=> ?_);clear hK K;try simp only[Act.put,sl0,sl1,sl2]
     iterate 2 (refine ptY ?_)
     refine wpAnyH_done (by kernel_rfl) ?_ _;clear e0 e1;replace HBr:=hh_ (HBr.keep hz12);replace HGr:=hh_ (HGr.keep hz12);clear hb10 hz10 hb11 hz11 hb12 hz12 HSC HZ0 HS1 KR1 KR2 KR3;have e0:=HGr.c0;have e1:=HGr.c1;go_wp2;go_ret2;exact⟨by rw[Hn.out];rfl,HBr.below⟩
section
variable (sz:Int) (A:Option Addr) (m c:Nat) (x:Nat->Int) (w:World)
theorem SidesOf_no (h:GA w A m c x) (hm:m<=1048576) (hok:okB sz m x=false):
 Calls Tryz.prog 166 #[.agg #[.int .i64 sz,.slice A m c]] w fun e w'=>e=.returned (lsV none)/\Below w.heap.size w w':=by
 obtain⟨W,hW,HB,HK,HC⟩:=gaW sz h;have HW:=hh_ hW;have Ho:=hh_ hok;clear hW h hok;go_enter Tryz.func166,Tryz.ntmps166;obtain⟨e0,e1⟩:=gc_ HC;go_wp2_with fail
 rw[<-HW.out];clear HW;refine(IsGraph_any sz A m c x W W.heap.size HK.rd nr_ hm).mono ?_;rintro e w1 ⟨rfl,hb1⟩;rw[Ho.out];clear e0 e1;obtain⟨HB,HK,HC,e0,e1⟩:=kC_ HB HK HC hb1;clear hb1;go_wp2;go_ret2;exact⟨rfl,HB.below⟩
set_option maxRecDepth 100000 in
theorem IsBipartite_i (h:GA w A m c x) (hm:m<=1048576):
 Calls Tryz.prog 104 #[.agg #[.int .i64 sz,.slice A m c]] w fun e w'=>e=.returned (.bool (biB sz m x))/\Below w.heap.size w w':=by
 obtain⟨W,hW,HB,HK,HC⟩:=gaW sz h;have HW:=hh_ hW;clear hW h;go_enter Tryz.func104,Tryz.ntmps104;cases ho:okB sz m x
 ·have Hn:Hid (biB sz m x=false):=biB_no ho;have KF:=hh_ (SidesOf_no sz A m c x W HK hm ho);clear ho;obtain⟨e0,e1⟩:=gc_ HC;go_wp2_with fail
  rw[<-HW.out];refine(KF.out).mono ?_;rintro e w1 ⟨rfl,hb1⟩;clear HW;clear e0 e1;obtain⟨HB,HK,HC,e0,e1⟩:=kC_ HB HK HC hb1;clear hb1;clear KF;rw[lsV_none];go_wp2;go_ret;exact⟨ret_bool Hn.symm,HB.below⟩
 obtain⟨_,es,_,_⟩:=okB_ok' ho;subst es;have Hn:Hid (biB (m:Int) m x=(sdO (rw_ x) m).isSome):=biB_yes ho;have HG:Hid (GBox W w.heap.size A m c (rw_ x)):=⟨HK.gv ho,HC.c0,HC.c1,HC.lt⟩;have KF:=hh_ (SidesOf_v HG.gv);obtain⟨o,ho2⟩: ∃o,o=sdO (rw_ x) m:=⟨_,rfl⟩;rw[<-ho2] at Hn KF;clear ho ho2 HC HK;cases o
 ·skip;obtain⟨e0,e1⟩:=gx_ HG;go_wp2_with fail
  rw[<-HW.out];refine(KF.out).mono ?_;rintro e w2 ⟨rfl,hb2⟩;clear HW;clear e0 e1;obtain⟨HB,HG,e0,e1⟩:=kG_ HB HG hb2;clear hb2;clear KF;rw[lsV_none];go_wp2;go_ret;exact⟨ret_bool Hn.symm,HB.below⟩
 ·skip;obtain⟨e0,e1⟩:=gx_ HG;go_wp2_with fail
  rw[<-HW.out];refine(KF.out).mono ?_;rintro e w3 ⟨rfl,hb3⟩;clear HW;clear e0 e1;obtain⟨HB,HG,e0,e1⟩:=kG_ HB HG hb3;clear hb3;clear KF;rw[lsV_some];go_wp2;go_ret;exact⟨ret_bool Hn.symm,HB.below⟩
end
end Go.Proofs.YtfabbohijhjpcaaGreatDoor
