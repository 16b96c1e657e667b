/- Lemmas. -/
import Derived.Test.YtfabbohijhjpcaaGreatDoorRbGB
import Derived.Deep.RegionLaw
import Derived.ArgAppend
/-
 Contracts: is a graph chordal? The program's elimination.
-/
namespace Go.Proofs.YtfabbohijhjpcaaGreatDoor
open Go.RowKit
set_option maxHeartbeats 1600000
def fIdx (p:Nat->Bool) (n:Nat):Int:=match (List.range n).find? p with|some k=>(k:Int)|none=> -1
theorem fIdx_yes {p:Nat->Bool} {n k:Nat} (hk:k<n) (hp:p k=true) (hmin: ∀j,j<k->p j=false):fIdx p n=k:=by
 have:(List.range n).find? p=some k:=by
  rw[List.find?_range_eq_some];exact⟨hp,by simp[hk],fun j hj=>by simp[hmin j hj]⟩
 unfold fIdx;rw[this]
theorem fIdx_no {p:Nat->Bool} {n:Nat} (h: ∀j,j<n->p j=false):fIdx p n= -1:=by
 have:(List.range n).find? p=none:=by
  rw[List.find?_eq_none];intro j hj;simp[h j (List.mem_range.1 hj)]
 unfold fIdx;rw[this]
theorem IndexFunc_E (A:Option Addr) (c:Nat) (l:List Nat) (p:Nat->Bool) (bg bl:Nat) (w:World) (B:Nat) (h:Rd w B A l.length c (fun j=>((l.getD j 0:Nat):Int))) (hB:B<=w.heap.size) (hl:l.length<=7)
 (HF:Hid (∀(j:Nat) (hj:j<l.length) (w':World),Below w.heap.size w w'->Calls Tryz.prog 236 #[.int .i64 (l[j]:Int),.pointer (some ⟨bg,0,none⟩),.pointer (some ⟨bl,0,none⟩)] w' fun e w''=>e=.returned (.bool (p j))/\Below w'.heap.size w' w'')):
 Calls Tryz.prog 235 #[.slice A l.length c,.func (.func 236) #[] #[.pointer (some ⟨bg,0,none⟩),.pointer (some ⟨bl,0,none⟩)]] w fun e w'=>e=.returned (.int .i64 (fIdx p l.length))/\Below w.heap.size w w':=by
 have HR:=hh_ h;clear h;go_enter Tryz.func235,Tryz.ntmps235;go_wp2;go_loopw [8] (fun i wr=> ∃k:Nat,k<=l.length/\i=.int .i64 k/\Hid (∀j,j<k->p j=false)/\Hid (Below w.heap.size w wr)) (fun i _=>l.length-(intOf i).toNat);case atStart=>exact⟨0,Nat.zero_le _,rfl,(fun j hj=>absurd hj (by omega)),br_⟩
 case round=>
  obtain⟨k,hk,rfl,hall,hbr⟩:=hrel;have zr:=hbr.size;by_cases hlt:k<l.length
  ·obtain⟨b,o,rfl,hb,hc⟩:=HR.pos (by omega);have q0:wr.cell? ⟨b,o+k,none⟩=some (.int .i64 (l[k]:Int)):=((hbr.cell (p:=⟨b,o+k,none⟩) (by show b<_;omega)).trans (hc k hlt)).trans (by simp[List.getD,hlt]);have K1:=hh_ (HF.out k hlt wr hbr.out);obtain⟨v,hv⟩: ∃v:Nat,v=l[k]:=⟨_,rfl⟩;rw[<-hv] at q0 K1;have i1:(k:Int)<l.length:=by omega
   clear hc hv;cases hp:p k
   ·rw[hp] at K1;have Hp:=hh_ hp;clear hp;go_wp2_with fail
    refine K1.mono ?_;rintro e w3 ⟨rfl,hb3⟩;have HB3:Hid (Below w.heap.size w w3):=hbr.trans (hb3.mono zr);clear hb3 hbr q0;go_wp2;go_roundw;case rel=>
     refine⟨k+1,by omega,by go_num,fun j hj=> ?_,HB3⟩;by_cases hjk:j<k
     ·exact hall.out j hjk
     ·obtain rfl:j=k:=by omega
      exact Hp.out
    case measure=>simp[intOf];omega
   ·rw[hp] at K1;have Hi:Hid (fIdx p l.length=k):=fIdx_yes hlt hp hall.out;clear hp;go_wp2_with fail
    refine K1.mono ?_;rintro e w3 ⟨rfl,hb3⟩;have HB3:Hid (Below w.heap.size w w3):=hbr.trans (hb3.mono zr);clear hb3 hbr q0;go_wp2;go_ret;exact⟨ret_int Hi.symm,HB3.out⟩
  ·have Hi:Hid (fIdx p l.length= -1):=fIdx_no fun j hj=>hall.out j (by omega)
   have i1:(l.length:Int)<=(k:Int):=by omega
   go_wp2;go_ret;exact⟨ret_int Hi.symm,hbr.out⟩
theorem all_any (m:Nat) (A:Option Addr) (c:Nat) (w:World) (hm:m<=7):
 Calls Tryz.prog 225 #[.agg #[.int .i64 m,.slice A m c]] w fun e w'=>e=.returned (.int .i64 ((2^m-1:Nat):Int))/\Below w.heap.size w w':=by
 have p1:=pow_shl m hm;have p2:=two_pow_int m hm;have H:Hid (((2^m-1:Nat):Int)=2^m-1):=by show _=_;rw[Int.ofNat_sub (Nat.two_pow_pos m)];simp
 have HB:Hid (Below w.heap.size w (w.alloc (Obj.cells #[.int .i64 m,.slice A m c] 26))):=br_.alloc nr_ _;go_enter Tryz.func225,Tryz.ntmps225;go_wp2;go_ret;exact⟨ret_int H.symm,HB.out⟩
end Go.Proofs.YtfabbohijhjpcaaGreatDoor
/-
 Contracts: neighbours, parts, numbers of members: the program's.
-/
namespace Go.Proofs.YtfabbohijhjpcaaGreatDoor
open Go.RowKit
theorem CountSet_i (s:Nat) (hs:s<128) (w:World):
 Calls Tryz.prog 300 #[.int .i64 s] w fun e w'=>e=.returned (.int .i64 ((listN s).length:Int))/\Below w.heap.size w w':=by
 go_enter Tryz.func300,Tryz.ntmps300;go_wp2_with fail
 refine(ListOf_i s hs w).mono ?_;rintro e w1 ⟨A',c',rfl,hO,hb1⟩;have HB:=hh_ hb1;clear hO hb1;go_wp2;go_ret;exact⟨rfl,HB.out⟩
def nbL (r:Nat->Nat) (s k:Nat):Nat:=((listN s).take k).foldl (fun a v=>a|||r v) 0
theorem nbL_succ {r:Nat->Nat} {s k:Nat} (h:k<(listN s).length):nbL r s (k+1)=nbL r s k|||r (listN s)[k]:=by
 unfold nbL;rw[List.take_succ_eq_append_getElem h,List.foldl_append];rfl
theorem nbL_end {r:Nat->Nat} {s k:Nat} (h:(listN s).length<=k):nbL r s k=nb r s:=by
 unfold nbL;rw[List.take_of_length_le h];exact nb_list 7
theorem nbL_lt {r:Nat->Nat} {s n k:Nat} (hr: ∀v,v<n->r v<2^n) (hs:s<2^n):nbL r s k<2^n:=
 fold_lt _ _ (Nat.two_pow_pos n) (fun v hv=>hr v (bit_lt hs (mem_listN.1 (List.mem_of_mem_take hv)).2))
theorem neighbors_i (m:Nat) (A:Option Addr) (c:Nat) (x:Nat->Int) (s:Nat) (w:World) (B:Nat) (h:Rd w B A m c x) (hB:B<=w.heap.size) (hok:okB m m x=true) (hs:s<2^m):
 Calls Tryz.prog 312 #[.agg #[.int .i64 m,.slice A m c],.int .i64 s] w fun e w'=>e=.returned (.int .i64 (nb (rw_ x) s:Nat))/\Below w.heap.size w w':=by
 obtain⟨vg,hx⟩:=okB_vg hok;have hn1:=vg.n1;have hn7:=vg.n7;have h128:=two_pow_le hn7;obtain⟨W,hW⟩: ∃W,W=(w.alloc (Obj.cells #[.int .i64 m,.slice A m c] 26)):=⟨_,rfl⟩;have HB:Hid (Below w.heap.size w W):=by rw[hW];exact(br_.alloc nr_ _)
 have a0:w.heap.size<W.heap.size:=by rw[hW];simp
 have e1:W.cell? ⟨w.heap.size,1,none⟩=some (.slice A m c):=by rw[hW];simp[go_sem]
 obtain⟨b,o,rfl,hb,hc⟩:=(h.keep (HB.mono hB) nr_).pos (by omega);have HC:=hh_ hc;have HW:=hh_ hW;have HX:=hh_ hx;have HV:=hh_ vg;clear hW h hc hx vg hok;go_enter Tryz.func312,Tryz.ntmps312;go_wp2_with fail
 rw[<-HW.out];clear HW;refine(ListOf_i s (by omega) W).mono ?_;rintro e w1 ⟨A',c',rfl,hO,hb1⟩;have z1:=hb1.size;have f1:=up hb1 e1 a0;have HO:=hh_ hO;have HB1:Hid (Below w.heap.size w w1):=HB.trans (hb1.mono (by omega));have HC1:Hid (∀v,v<m->w1.cell? ⟨b,o+v,none⟩=some (.int .i64 (x v))):=fun v hv=>(hb1.cell (p:=⟨b,o+v,none⟩) (by show b<_;omega)).trans (HC.out v hv)
 have hl7:=listN_len s;clear hO hb1 e1 HC HB;go_wp2;go_loop [5,11] (fun a i=> ∃k:Nat,k<=(listN s).length/\i=.int .i64 k/\a=.int .i64 (nbL (rw_ x) s k:Nat)) (fun _ i=>(listN s).length-(intOf i).toNat);case atStart=>exact⟨0,Nat.zero_le _,rfl,rfl⟩
 case round=>
  obtain⟨k,hk,rfl,rfl⟩:=hrel;by_cases hlt:k<(listN s).length
  ·obtain⟨hv7,hvb⟩:=listN_at hlt;have hvm:=bit_lt hs hvb;have hstep:=nbL_succ (r:=rw_ x) hlt;have hlt1:=nbL_lt (r:=rw_ x) (k:=k) HV.lt hs;obtain⟨v,hv⟩: ∃v,v=(listN s)[k]:=⟨_,rfl⟩;rw[<-hv] at hv7 hvb hvm hstep;obtain⟨g,hA,hg1,hg2,_,hcell,_⟩:=HO.at_ (by omega);have q0:w1.cell? ⟨g,k,none⟩=some (.int .i64 v):=(hcell k (by omega)).trans (by rw[ni_at hlt,<-hv]);have q2:=HC1.out v hvm;rw[HX.out v hvm] at q2;have hr128:=HV.lt128 hvm;have E:=i64_or_nat (nbL (rw_ x) s k) (rw_ x v) (by omega) (by omega);rw[<-hstep] at E;have i1:(k:Int)<((listN s).length:Int):=by omega
   have i2:(v:Int)<m:=by omega
   subst hA;clear hv hcell hvb hstep;go_wp2;go_round;case rel=>exact⟨k+1,by omega,by go_num,rfl⟩
   case measure=>simp[intOf];omega
  ·have hend:Hid (nbL (rw_ x) s k=nb (rw_ x) s):=nbL_end (by omega);have i1:((listN s).length:Int)<=(k:Int):=by omega
   go_wp2;go_ret;exact⟨ret_int (by rw[hend.out]),HB1.out⟩
theorem partOf_i (m:Nat) (A:Option Addr) (c:Nat) (x:Nat->Int) (set s:Nat) (w:World) (B:Nat) (h:Rd w B A m c x) (hB:B<=w.heap.size) (hok:okB m m x=true) (hset:set<2^m) (hsub:Sub s set) (h0:s≠0):
 Calls Tryz.prog 311 #[.agg #[.int .i64 m,.slice A m c],.int .i64 set,.int .i64 s] w fun e w'=>e=.returned (.int .i64 (part (rw_ x) set s:Nat))/\Below w.heap.size w w':=by
 obtain⟨vg,hx⟩:=okB_vg hok;have hn7:=vg.n7;have h128:=two_pow_le hn7;obtain⟨W,hW⟩: ∃W,W=(w.alloc (Obj.cells #[.int .i64 m,.slice A m c] 26)):=⟨_,rfl⟩;have HB:Hid (Below w.heap.size w W):=by rw[hW];exact(br_.alloc nr_ _)
 have a0:w.heap.size<W.heap.size:=by rw[hW];simp
 have e0:W.cell? ⟨w.heap.size,0,none⟩=some (.int .i64 m):=by rw[hW];simp[go_sem]
 have e1:W.cell? ⟨w.heap.size,1,none⟩=some (.slice A m c):=by rw[hW];simp[go_sem]
 have HK:=hh_ (h.keep (HB.mono hB) nr_);have HW:=hh_ hW;have HV:=hh_ vg;have Hok:=hh_ hok;have Hsub:=hh_ hsub;have H0:=hh_ h0;clear hW h hx vg hok hsub h0;go_enter Tryz.func311,Tryz.ntmps311;go_wp2_with fail
 rw[<-HW.out];clear HW;go_loopw [2] (fun f wr=> ∃k:Nat,f=.int .i64 (gro (rw_ x) set s k:Nat)/\Hid (∀j,j<k->gro (rw_ x) set s (j+1)≠gro (rw_ x) set s j)/\Hid (Below W.heap.size W wr)) (fun f _=>128-(intOf f).toNat);case atStart=>exact⟨0,rfl,(fun j hj=>absurd hj (by omega)),br_⟩
 case round=>
  obtain⟨k,rfl,hall,hbr⟩:=hrel;have zr:=hbr.size;have j0:=up hbr.out e0 a0;have j1:=up hbr.out e1 a0;have hgs:=gro_sub (r:=rw_ x) Hsub.out k;have hlt:=sub_lt hgs hset;have hnb:=nb_lt (r:=rw_ x) (s:=gro (rw_ x) set s k) HV.lt hlt 7;have hgg:=gro_grow (r:=rw_ x) Hsub.out k;have hle:=sub_num hgg;have hlt2:=sub_lt (gro_sub (r:=rw_ x) Hsub.out (k+1)) hset;have hstep:gro (rw_ x) set s (k+1)=(gro (rw_ x) set s k|||nb (rw_ x) (gro (rw_ x) set s k))&&&set:=rfl;have HK2:Hid (Rd wr B A m c x):=HK.keep (hbr.mono (by omega)) nr_;have hE:Hid (gro (rw_ x) set s (k+1)=gro (rw_ x) set s k->gro (rw_ x) set s k=part (rw_ x) set s):=fun e=>fix_part (r:=rw_ x) hn7 hset Hsub.out H0.out hall.out e
  obtain⟨a,ha⟩: ∃a,a=gro (rw_ x) set s k:=⟨_,rfl⟩;obtain⟨b,hb⟩: ∃b,b=gro (rw_ x) set s (k+1):=⟨_,rfl⟩;rw[<-ha] at hstep hlt hnb hle ⊢;rw[<-ha,<-hb] at hE;rw[<-hb] at hstep hle hlt2;obtain⟨n,hnn⟩: ∃n,n=nb (rw_ x) a:=⟨_,rfl⟩;have hn2:n<2^m:=by rw[hnn];exact hnb
  have E1:=i64_or_nat a n (by omega) (by omega);have horlt:a|||n<2^m:=Nat.or_lt_two_pow hlt hn2;have E2:=i64_and_nat (a|||n) set (by omega) (by omega);rw[hnn,<-hstep] at E2;rw[<-hnn] at E2;have Ha:=hh_ ha;have Hb:=hh_ hb;have Hnn:=hh_ hnn;clear ha hb hgs hgg hstep hnb hnn;go_wp2_with fail
  refine(neighbors_i m A c x a wr B HK2.out (by omega) Hok.out hlt).mono ?_;rintro e w2 ⟨rfl,hb2⟩;rw[<-Hnn.out];have HB2:Hid (Below W.heap.size W w2):=hbr.trans (hb2.mono zr);clear hb2 hbr HK2 j0 j1;by_cases hab:b=a
  ·have hp:Hid (a=part (rw_ x) set s):=hE.out hab;subst hab;go_wp2;go_ret;exact⟨ret_int (by rw[<-hp.out]),HB.trans (HB2.mono (by omega))⟩
  ·have hne:((b:Int)==(a:Int))=false:=by simp;omega
   have hne2:(b=a)=False:=by simp[hab]
   have hlt3:a<b:=by omega
   have Hab:=hh_ hab;clear hab;go_wp2;go_roundw;case rel=>
    refine⟨k+1,by rw[<-Hb.out],fun j hj=> ?_,HB2⟩;by_cases hjk:j<k
    ·exact hall.out j hjk
    ·obtain rfl:j=k:=by omega
     rw[<-Hb.out,<-Ha.out];exact Hab.out
   case measure=>simp[intOf];omega
end Go.Proofs.YtfabbohijhjpcaaGreatDoor
/-
 Contracts: a set without which more parts are left than it has members: the program's search.
-/
namespace Go.Proofs.YtfabbohijhjpcaaGreatDoor
open Go.RowKit
theorem low_bits: ∀s:Nat,s<128->s≠0->bits .and .i64 (s:Int) (-(s:Int))=((low s:Nat):Int):=by decide+kernel
noncomputable def tw (sz:Int) (m:Nat) (x:Nat->Int):Option Nat:=if okB sz m x=true then twR (rw_ x) m else none
end Go.Proofs.YtfabbohijhjpcaaGreatDoor
/-
 Contracts: a set without which more parts are left than it has members: the reference's search.
-/
namespace Go.Proofs.YtfabbohijhjpcaaGreatDoor
open Go.RowKit
theorem CountSet_s (s:Nat) (hs:s<128) (w:World):
 Calls Tryz.prog 262 #[.int .i64 s] w fun e w'=>e=.returned (.int .i64 ((listN s).length:Int))/\Below w.heap.size w w':=by
 go_enter Tryz.func262,Tryz.ntmps262;go_wp2_with fail
 refine(ListOf_s s hs w).mono ?_;rintro e w1 ⟨A',c',rfl,hO,hb1⟩;have HB:=hh_ hb1;clear hO hb1;go_wp2;go_ret;exact⟨rfl,HB.out⟩
theorem nbK_end {r:Nat->Nat} {s m:Nat} (hs:s<2^m): ∀k,m<=k->nbK r s k=nbK r s m:=by
 intro k hk;induction k with
 |zero=>obtain rfl:m=0:=by omega
        rfl
 |succ k ih=>
  by_cases h:m=k+1
  ·rw[h]
  ·rw[nbK_no,ih (by omega)];cases hb:s.testBit k
   ·rfl
   ·have:=bit_lt hs hb;omega
theorem AroundSet_s (m:Nat) (A:Option Addr) (c:Nat) (x:Nat->Int) (s:Nat) (w:World) (B:Nat) (h:Rd w B A m c x) (hB:B<=w.heap.size) (hok:okB m m x=true) (hs:s<2^m):
 Calls Tryz.prog 259 #[.agg #[.int .i64 m,.slice A m c],.int .i64 s] w fun e w'=>e=.returned (.int .i64 ((s|||nb (rw_ x) s:Nat):Int))/\Below w.heap.size w w':=by
 obtain⟨vg,hx⟩:=okB_vg hok;have hn1:=vg.n1;have hn7:=vg.n7;have h128:=two_pow_le hn7;obtain⟨W,hW⟩: ∃W,W=(w.alloc (Obj.cells #[.int .i64 m,.slice A m c] 26)):=⟨_,rfl⟩;have HB:Hid (Below w.heap.size w W):=by rw[hW];exact(br_.alloc nr_ _)
 have a0:w.heap.size<W.heap.size:=by rw[hW];simp
 have e0:W.cell? ⟨w.heap.size,0,none⟩=some (.int .i64 m):=by rw[hW];simp[go_sem]
 have e1:W.cell? ⟨w.heap.size,1,none⟩=some (.slice A m c):=by rw[hW];simp[go_sem]
 have HK:=hh_ (h.keep (HB.mono hB) nr_);obtain⟨b,o,rfl,hb,hc⟩:=HK.pos (by omega);have HC:=hh_ hc;have HW:=hh_ hW;have HX:=hh_ hx;have HV:=hh_ vg;have Hok:=hh_ hok;clear hW h hc hx vg hok;go_enter Tryz.func259,Tryz.ntmps259;go_wp2_with fail
 rw[<-HW.out];clear HW;refine(IsSet_yes m (some ⟨b,o,none⟩) c x s W B HK.out (by omega) hn7 Hok.out hs).mono ?_;rintro e w1 ⟨rfl,hb1⟩;have z1:=hb1.size;have f0:=up hb1 e0 a0;have f1:=up hb1 e1 a0;have HB1:Hid (Below w.heap.size w w1):=HB.trans (hb1.mono (by omega));have HC1:Hid (∀v,v<m->w1.cell? ⟨b,o+v,none⟩=some (.int .i64 (x v))):=fun v hv=>(hb1.cell (p:=⟨b,o+v,none⟩) (by show b<_;omega)).trans (HC.out v hv)
 clear hb1 e0 e1 HC HB HK;go_wp2;go_loop [5,6] (fun a i=> ∃k:Nat,k<=m/\i=.int .i64 k/\a=.int .i64 ((s|||nbK (rw_ x) s k:Nat):Int)) (fun _ i=>m-(intOf i).toNat);case atStart=>exact⟨0,Nat.zero_le _,rfl,by simp[nbK]⟩
 case round=>
  obtain⟨k,hk,rfl,rfl⟩:=hrel;by_cases hlt:k<m
  ·have q2:=HC1.out k hlt;rw[HX.out k hlt] at q2;have hr128:=HV.lt128 hlt;have hnb:=nb_lt (r:=rw_ x) (s:=s) HV.lt hs k;have hlt1:s|||nbK (rw_ x) s k<2^m:=Nat.or_lt_two_pow hs hnb;have E:=i64_or_nat (s|||nbK (rw_ x) s k) (rw_ x k) (by omega) (by omega);have E1:=and_one_i64 (s:Int) k (by omega) (by omega);rw[Int.toNat_natCast] at E1;have i1:(k:Int)<m:=by omega
   cases ht:s.testBit k
   ·rw[ht] at E1;have Hs:=hh_ (nbK_no (r:=rw_ x) ht);clear ht E;go_wp2;go_round;case rel=>exact⟨k+1,by omega,by go_num,by rw[Hs.out]⟩
    case measure=>simp[intOf]<;>omega
   ·rw[ht] at E1;have Hs:=hh_ (nbK_yes (r:=rw_ x) ht);rw[Nat.or_assoc,<-nbK_yes ht] at E;clear ht;go_wp2;go_round;case rel=>exact⟨k+1,by omega,by go_num,rfl⟩
    case measure=>simp[intOf]<;>omega
  ·have hend:Hid (nbK (rw_ x) s k=nb (rw_ x) s):=by show _=nbK _ _ 7;rw[nbK_end hs k (by omega),nbK_end hs 7 hn7]
   have i1:(m:Int)<=k:=by omega
   go_wp2;go_ret;exact⟨ret_int (by rw[hend.out]),HB1.out⟩
theorem l3Grow_s (m:Nat) (A:Option Addr) (c:Nat) (x:Nat->Int) (s set:Nat) (w:World) (B:Nat) (h:Rd w B A m c x) (hB:B<=w.heap.size) (hok:okB m m x=true) (hset:set<2^m) (hsub:Sub s set) (h0:s≠0):
 Calls Tryz.prog 175 #[.agg #[.int .i64 m,.slice A m c],.int .i64 s,.int .i64 set] w fun e w'=>e=.returned (.int .i64 (part (rw_ x) set s:Nat))/\Below w.heap.size w w':=by
 obtain⟨vg,hx⟩:=okB_vg hok;have hn7:=vg.n7;have h128:=two_pow_le hn7;obtain⟨W,hW⟩: ∃W,W=(w.alloc (Obj.cells #[.int .i64 m,.slice A m c] 26)):=⟨_,rfl⟩;have HB:Hid (Below w.heap.size w W):=by rw[hW];exact(br_.alloc nr_ _)
 have a0:w.heap.size<W.heap.size:=by rw[hW];simp
 have e0:W.cell? ⟨w.heap.size,0,none⟩=some (.int .i64 m):=by rw[hW];simp[go_sem]
 have e1:W.cell? ⟨w.heap.size,1,none⟩=some (.slice A m c):=by rw[hW];simp[go_sem]
 have HK:=hh_ (h.keep (HB.mono hB) nr_);have HW:=hh_ hW;have HV:=hh_ vg;have Hok:=hh_ hok;have Hsub:=hh_ hsub;have HE:Hid (gro (rw_ x) set s m=part (rw_ x) set s):=gro_part hn7 hset hsub h0;clear hW h hx vg hok hsub h0;go_enter Tryz.func175,Tryz.ntmps175;go_wp2_with fail
 rw[<-HW.out];clear HW;go_loopw [7,8] (fun f i wr=> ∃k:Nat,k<=m/\i=.int .i64 k/\f=.int .i64 (gro (rw_ x) set s k:Nat)/\Hid (Below W.heap.size W wr)) (fun _ i _=>m-(intOf i).toNat);case atStart=>exact⟨0,Nat.zero_le _,rfl,rfl,br_⟩
 case round=>
  obtain⟨k,hk,rfl,rfl,hbr⟩:=hrel;have zr:=hbr.size;have j0:=up hbr.out e0 a0;have j1:=up hbr.out e1 a0;by_cases hlt:k<m
  ·have hgl:=sub_lt (gro_sub (r:=rw_ x) Hsub.out k) hset;have hnb:=nb_lt (r:=rw_ x) (s:=gro (rw_ x) set s k) HV.lt hgl 7;have hstep:gro (rw_ x) set s (k+1)=(gro (rw_ x) set s k|||nb (rw_ x) (gro (rw_ x) set s k))&&&set:=rfl;have HK2:Hid (Rd wr B A m c x):=HK.keep (hbr.mono (by omega)) nr_;have hor:gro (rw_ x) set s k|||nb (rw_ x) (gro (rw_ x) set s k)<2^m:=Nat.or_lt_two_pow hgl hnb;obtain⟨a,ha⟩: ∃a,a=gro (rw_ x) set s k:=⟨_,rfl⟩;rw[<-ha] at hgl hor hstep ⊢;obtain⟨q,hq⟩: ∃q,q=a|||nb (rw_ x) a:=⟨_,rfl⟩;have E:=i64_and_nat q set (by omega) (by omega);rw[hq,<-hstep,<-hq] at E;have Hq:=hh_ hq;have i1:(k:Int)<m:=by omega
   have hBw:B<=wr.heap.size:=by omega
   clear ha hnb hstep hq;go_wp2_with fail
   refine(AroundSet_s m A c x a wr B HK2.out hBw Hok.out hgl).mono ?_;rintro e w2 ⟨rfl,hb2⟩;rw[<-Hq.out];have HB2:Hid (Below W.heap.size W w2):=hbr.trans (hb2.mono zr);clear hb2 hbr HK2 j0 j1;go_wp2;go_roundw;case rel=>exact⟨k+1,by omega,by go_num,rfl,HB2⟩
   case measure=>simp[intOf]<;>omega
  ·have hk':k=m:=by omega
   have HE2:Hid (gro (rw_ x) set s k=part (rw_ x) set s):=by show _=_;rw[hk'];exact HE.out
   have i1:(m:Int)<=k:=by omega
   clear hk';go_wp2;go_ret;exact⟨ret_int (by rw[HE2.out]),HB.trans (hbr.mono (by omega))⟩
end Go.Proofs.YtfabbohijhjpcaaGreatDoor
/-
 Contract: a graph and one edge more, of the program.
-/
namespace Go.Proofs.YtfabbohijhjpcaaGreatDoor
open Go.RowKit
noncomputable def aeB (sz:Int) (m:Nat) (x:Nat->Int) (v u:Int):Bool:=okB sz m x&&decide (0<=v/\v<sz/\0<=u/\u<sz/\v≠u)&& !((x v.toNat).toNat.testBit u.toNat)
noncomputable def aeX (sz:Int) (m:Nat) (x:Nat->Int) (v u:Int):Nat->Int:=if aeB sz m x v u=true then fun j=>((addN (fun i=>(x i).toNat) v.toNat u.toNat j:Nat):Int) else x
theorem okB_ok' {s:Int} {m:Nat} {x:Nat->Int} (h:okB s m x=true):OkG s m x:=by
 refine Classical.byContradiction fun h2=> ?_
 rw[okB_no h2] at h;cases h
theorem aeX_no {sz:Int} {m:Nat} {x:Nat->Int} {v u:Int} (h:aeB sz m x v u=false):aeX sz m x v u=x:=by unfold aeX;rw[h];rfl
theorem aeB_parts {sz:Int} {m:Nat} {x:Nat->Int} {v u:Int} (h:aeB sz m x v u=true):okB sz m x=true/\(0<=v/\v<sz/\0<=u/\u<sz/\v≠u)/\(x v.toNat).toNat.testBit u.toNat=false:=by
 unfold aeB at h;simp only[Bool.and_eq_true,decide_eq_true_eq,Bool.not_eq_true'] at h;exact⟨h.1.1,h.1.2,h.2⟩
theorem frC {lo hi b o:Nat} {W w1:World} {v:Value} (hf:Fr lo hi W w1) (e:W.cell? ⟨b,o,none⟩=some v) (h:b<W.heap.size) (h2:b<lo\/hi<=b):w1.cell? ⟨b,o,none⟩=some v:=(hf.cell (p:=⟨b,o,none⟩) h h2).trans e
theorem frZ {lo hi b o:Nat} {W w1:World} {v:Bool} (hf:Fr lo hi W w1) (e:W.frozen? ⟨b,o,none⟩=v) (h:b<W.heap.size) (h2:b<lo\/hi<=b):w1.frozen? ⟨b,o,none⟩=v:=(World.frozen?_of_block (hf.block b h h2)).trans e
theorem isVertex_ok (A A2:Option Addr) (m c c2:Nat) (x y:Nat->Int) (w:World) (B:Nat) (h:Rd w B A m c x) (h2:Rd w B A2 2 c2 y) (hB:B<=w.heap.size) (hm:m<=1048576) (hok:okB m m x=true) (v u:Int) (hv:y 0=v) (hu:y 1=u):
 Calls Tryz.prog 150 #[.agg #[.int .i64 m,.slice A m c],.slice A2 2 c2] w fun e w'=>e=.returned (.bool (decide (0<=v/\v<m/\0<=u/\u<m)))/\Below w.heap.size w w':=by
 subst hv hu;obtain⟨W,hW⟩: ∃W,W=(w.alloc (Obj.cells #[.int .i64 m,.slice A m c] 26)):=⟨_,rfl⟩;have HB:Hid (Below w.heap.size w W):=by rw[hW];exact(br_.alloc nr_ _)
 have e0:W.cell? ⟨w.heap.size,0,none⟩=some (.int .i64 m):=by rw[hW];simp[go_sem]
 have e1:W.cell? ⟨w.heap.size,1,none⟩=some (.slice A m c):=by rw[hW];simp[go_sem]
 have k1:=hh_ (h.keep (HB.mono hB) nr_);obtain⟨b,o,rfl,hb,hc⟩:=h2.pos (by omega);have q0:=(HB.cell (p:=⟨b,o+0,none⟩) (by show b<_;omega)).trans (hc 0 (by omega));have q1:=(HB.cell (p:=⟨b,o+1,none⟩) (by show b<_;omega)).trans (hc 1 (by omega));have HZ:Hid (w.heap.size<W.heap.size):=by rw[hW];simp[Hid]
 have HW:=hh_ hW;have Hok:=hh_ hok;obtain⟨r,_,vg,_⟩:=okB_ok' hok;have:=vg.n1;have:=vg.n7;clear hW hc h h2 hok;go_enter Tryz.func150,Tryz.ntmps150;go_wp2_with fail
 go_loop [9] (fun i=> ∃k:Nat,k<=2/\i=.int .i64 k/\Hid (∀j,j<k->0<=y j/\y j<m)) (fun i=>2-(intOf i).toNat);case atStart=>exact⟨0,Nat.zero_le _,rfl,fun v hv=>absurd hv (by omega)⟩
 case round=>
  obtain⟨k,hk,rfl,hall⟩:=hrel;rw[<-HW.out];by_cases hlt:k<2
  ·have q2:W.cell? ⟨b,o+k,none⟩=some (.int .i64 (y k)):=by
    have:k=0\/k=1:=by omega
    rcases this with rfl|rfl
    ·exact q0
    ·exact q1
   clear q0 q1;by_cases hr:0<=y k/\y k<m
   ·obtain⟨hr1,hr2⟩:=hr;go_wp2_with (first|(go_at_call 60;refine(within_yes _ _ _ _ hr1 (by omega)).mono ?_;rintro e w' ⟨rfl,rfl⟩))
    go_round;case rel=>
     refine⟨k+1,by omega,by go_num,fun v hv=> ?_⟩;by_cases hvk:v<k
     ·exact hall.out v hvk
     ·obtain rfl:v=k:=by omega
      exact⟨hr1,hr2⟩
    case measure=>simp[intOf];omega
   ·have hno:Hid (decide (0<=y 0/\y 0<m/\0<=y 1/\y 1<m)=false):=by
     show _=_;rw[decide_eq_false_iff_not];rintro⟨a1,a2,a3,a4⟩;have:k=0\/k=1:=by omega
     rcases this with rfl|rfl
     ·exact hr ⟨a1,a2⟩
     ·exact hr ⟨a3,a4⟩
    have hr':y k<0\/(m:Int)-1<y k:=by omega
    have Hr:=hh_ hr';clear hr hr';go_wp2_with (first|(go_at_call 60;refine(within_no _ _ _ _ Hr.out).mono ?_;rintro e w' ⟨rfl,rfl⟩))
    go_ret;exact⟨ret_bool hno.symm,HB.out⟩
  ·obtain rfl:k=2:=by omega
   have hyes:Hid (decide (0<=y 0/\y 0<m/\0<=y 1/\y 1<m)=true):=by
    show _=_;rw[decide_eq_true_eq];exact⟨(hall.out 0 (by omega)).1,(hall.out 0 (by omega)).2,(hall.out 1 (by omega)).1,(hall.out 1 (by omega)).2⟩
   clear q0 q1;go_wp2_with fail
   refine(IsGraph_any m A m c x W B k1.out (by have:=HZ.out;omega) hm).mono ?_;rintro e w1 ⟨rfl,hb1⟩;have HB1:=hh_ (HB.trans (hb1.mono (by have:=HZ.out;omega)));clear hb1 e0 e1;rw[Hok.out];go_wp2;go_ret;exact⟨ret_bool hyes.symm,HB1.out⟩
theorem AddEdge_i (sz:Int) (A:Option Addr) (m c:Nat) (x:Nat->Int) (v u:Int) (w:World) (B:Nat) (h:Rd w B A m c x) (hB:B<=w.heap.size) (hm:m<=1048576) (hok:okB sz m x=true):
 Calls Tryz.prog 89 #[.agg #[.int .i64 sz,.slice A m c],.int .i64 v,.int .i64 u] w fun e w'=> ∃A' c',e=.returned (.tuple #[.agg #[.int .i64 sz,.slice A' m c'],.bool (aeB sz m x v u)])/\Own w' (w.heap.size+2) w'.heap.size 3 1 A' m c' (fun j=> .int .i64 (aeX sz m x v u j))/\Below w.heap.size w w':=by
 obtain⟨r,es,vg,hx⟩:=okB_ok' hok;subst es;have hn1:=vg.n1;have hn7:=vg.n7;obtain⟨W,hW⟩: ∃W,W=((w.alloc (Obj.cells #[.int .i64 m,.slice A m c] 26)).alloc (Obj.cells #[.int .i64 0,.slice none 0 0] 26)):=⟨_,rfl⟩;have HB:Hid (Below w.heap.size w W):=by rw[hW];exact(br_.alloc nr_ _).alloc (by simp) _
 have HZ:Hid (w.heap.size+2=W.heap.size):=by rw[hW];simp[Hid]
 have e0:W.cell? ⟨w.heap.size,0,none⟩=some (.int .i64 m):=by rw[hW];simp[go_sem]
 have e1:W.cell? ⟨w.heap.size,1,none⟩=some (.slice A m c):=by rw[hW];simp[go_sem]
 have e2:W.cell? ⟨w.heap.size+1,0,none⟩=some (.int .i64 0):=by rw[hW];simp[go_sem]
 have e3:W.cell? ⟨w.heap.size+1,1,none⟩=some (.slice none 0 0):=by rw[hW];simp[go_sem]
 have e4:W.frozen? ⟨w.heap.size+1,0,none⟩=false:=by rw[hW];simp[go_sem]
 have e5:W.frozen? ⟨w.heap.size+1,1,none⟩=false:=by rw[hW];simp[go_sem]
 have HK:=hh_ (h.keep (HB.mono hB) nr_);have HW:=hh_ hW;have HX:=hh_ hx;have HV:=hh_ vg;have Hok:=hh_ hok;clear hW h hx vg hok;go_enter Tryz.func89,Tryz.ntmps89;go_wp2_with fail
 rw[<-HW.out];refine(copyGraph_any m A m c x W B HK.out (by have:=HZ.out;omega) hm).mono ?_;rintro e w1 ⟨A',c',rfl,hO,hb1⟩;have f0:=up hb1 e0 (by have:=HZ.out;omega);have f1:=up hb1 e1 (by have:=HZ.out;omega);have f2:=up hb1 e2 (by have:=HZ.out;omega);have f3:=up hb1 e3 (by have:=HZ.out;omega);have f4:=upf hb1 e4 (by have:=HZ.out;omega);have f5:=upf hb1 e5 (by have:=HZ.out;omega);have z1:=hb1.size;have zz0:w.heap.size<w1.heap.size:=by have:=HZ.out;omega
 have zz1:w.heap.size+1<w1.heap.size:=by have:=HZ.out;omega
 obtain⟨g,rfl,hg1,hg2,hOc⟩:=hO.only (by omega);have HO1:=hh_ hOc;have HB1:=hh_ hb1;obtain⟨W2,hW2⟩: ∃W2,W2=((w1.alloc (Obj.cells #[.int .i64 m,.slice (some ⟨g,0,none⟩) m c'] 26)).alloc (Obj.cells #[.int .i64 v,Value.int IntKind.i64 u] 3)):=⟨_,rfl⟩;have hb2:Below w1.heap.size w1 W2:=by rw[hW2];exact(br_.alloc nr_ _).alloc (by simp) _
 have z2:w1.heap.size+2=W2.heap.size:=by rw[hW2];simp
 have g0:=up hb2 f0 zz0;have g1:=up hb2 f1 zz0;have g2:=up hb2 f2 zz1;have g3:=up hb2 f3 zz1;have g4:=upf hb2 f4 zz1;have g5:=upf hb2 f5 zz1;have g6:W2.cell? ⟨w1.heap.size,0,none⟩=some (.int .i64 m):=by rw[hW2];simp[go_sem]
 have g7:W2.cell? ⟨w1.heap.size,1,none⟩=some (.slice (some ⟨g,0,none⟩) m c'):=by rw[hW2];simp[go_sem]
 have HY:Hid (Rd W2 W2.heap.size (some ⟨w1.heap.size+1,0,none⟩) 2 2 (fun j=>if j=0 then v else u)):=by
  refine⟨nr_,fun _=>⟨w1.heap.size+1,0,rfl,by omega,fun k hk=> ?_⟩⟩;rw[hW2];have:k=0\/k=1:=by omega
  rcases this with rfl|rfl<;>simp[go_sem]
 have HZ2:=hh_ z2;have HB2:=hh_ hb2;have HW2:=hh_ hW2;have HK2:Hid (Rd W2 W2.heap.size A m c x):=HK.keep ((HB1.trans (HB2.mono z1)).mono (by have:=HZ.out;omega)) (by have:=HZ.out;omega);have HO2:Hid (Own W2 g (g+1) 3 1 (some ⟨g,0,none⟩) m c' (fun j=> .int .i64 (x j))):=HO1.keepB HB2.out (by omega);clear hO hOc hb1 HW e0 e1 e2 e3 e4 e5 z2 hb2 hW2;go_wp2_with fail
 rw[<-HW2.out];clear HW2 f0 f1 f2 f3 f4 f5;refine(isVertex_ok A (some ⟨w1.heap.size+1,0,none⟩) m c 2 x (fun j=>if j=0 then v else u) W2 W2.heap.size HK2.out HY.out nr_ hm Hok.out v u rfl rfl).mono ?_;rintro e w3 ⟨rfl,hb3⟩;have z3:=hb3.size;have yy0:w.heap.size<W2.heap.size:=by have:=HZ2.out;omega
 have yy1:w.heap.size+1<W2.heap.size:=by have:=HZ2.out;omega
 have yy2:w1.heap.size<W2.heap.size:=by have:=HZ2.out;omega
 have i0:=up hb3 g0 yy0;have i1:=up hb3 g1 yy0;have i2:=up hb3 g2 yy1;have i3:=up hb3 g3 yy1;have i4:=upf hb3 g4 yy1;have i5:=upf hb3 g5 yy1;have i6:=up hb3 g6 yy2;have i7:=up hb3 g7 yy2;have HO3:Hid (Own w3 g (g+1) 3 1 (some ⟨g,0,none⟩) m c' (fun j=> .int .i64 (x j))):=HO2.keepB hb3 (by omega);have HK3:Hid (Rd w3 w3.heap.size A m c x):=HK2.keep hb3 z3;have HB3:Hid (Below w.heap.size w w3):=HB.trans ((HB1.trans ((HB2.trans (hb3.mono (by omega))).mono z1)).mono (by have:=HZ.out;omega));have xx0:w.heap.size<w3.heap.size:=by omega
 have xx1:w.heap.size+1<w3.heap.size:=by omega
 have xx2:w1.heap.size<w3.heap.size:=by omega
 have HG:Hid (w.heap.size+2<=g/\g<w1.heap.size):=⟨by have:=HZ.out;omega,hg2⟩;clear g0 g1 g2 g3 g4 g5 g6 g7 hb3 HO1 HO2 HK HK2 HY HB1 HB2 HB yy0 yy1 yy2 hg1 hg2 zz0 zz1;by_cases hin:0<=v/\v<m/\0<=u/\u<m
 ·rw[decide_eq_true hin];obtain⟨h1,h2,h3,h4⟩:=hin;by_cases hvu:v=u
  ·have hno:Hid (aeB (m:Int) m x v u=false):=by
    show _=_;cases hb:aeB (m:Int) m x v u
    ·rfl
    ·exact absurd hvu (aeB_parts hb).2.1.2.2.2.2
   have hd:(v==u)=true:=by simp[hvu]
   clear hvu HX HV HK3;go_wp2;have F:Fr (w.heap.size+1) (w.heap.size+2) w3 _:=((Fr.refl _ _ w3).setCell (p:=⟨w.heap.size+1,0,none⟩) nr_ (Nat.lt_succ_self _) (Value.int IntKind.i64 m)).setCell (p:=⟨w.heap.size+1,1,none⟩) nr_ (Nat.lt_succ_self _) (Value.slice (some ⟨g,0,none⟩) m c');have O1:=((HO3.keep F (.inr HG.out.1)).mono HG.out.1 (by have:=HG.out.2;simp;omega:g+1<=((w3.setCell ⟨w.heap.size+1,0,none⟩ (Value.int IntKind.i64 m)).setCell ⟨w.heap.size+1,1,none⟩ (Value.slice (some ⟨g,0,none⟩) m c')).heap.size));exact bodyPost_ret (v:=.tuple #[.agg #[.int .i64 m,.slice (some ⟨g,0,none⟩) m c'],.bool false]) (by simp[results,Tryz.results89,go_sem, *]) rfl ⟨some ⟨g,0,none⟩,c',by rw[hno.out],O1.congr (fun j hj=>by rw[aeX_no hno.out]),HB3.trans (F.below (by omega) (by omega))⟩
  ·obtain⟨n,rfl⟩:=Int.eq_ofNat_of_zero_le h1;obtain⟨k,rfl⟩:=Int.eq_ofNat_of_zero_le h3;obtain⟨b,o,rfl,hb,hc⟩:=HK3.pos (by omega);have q0:=hc n (by omega);have q1:0<=x n:=by have:=HX.out n (by omega);omega
   have q2:x n<16777216:=by have:=HX.out n (by omega);have:=HV.lt128 (v:=n) (by omega);omega
   have hd:((n:Int)==(k:Int))=false:=by simpa using hvu
   have hd':((n:Nat)=k)=False:=by simp;omega
   have Hne:Hid (n≠k):=by show n≠k;omega
   have hk7:(k:Int)<=63:=by omega
   have h0k:0<=(k:Int):=by omega
   clear hc hvu;cases ht:(x n).toNat.testBit k
   ·have hyes:Hid (aeB (m:Int) m x n k=true):=by
     show _=_;unfold aeB;rw[Hok.out,decide_eq_true (⟨by omega,by omega,by omega,by omega,by have:=Hne.out;omega⟩:0<=(n:Int)/\(n:Int)<m/\0<=(k:Int)/\(k:Int)<m/\(n:Int)≠k)];simp[ht]
    have K1:Hid (∀w,Calls Tryz.prog 44 #[.int .i64 (x n),.int .i64 k] w fun e w'=>e=.returned (.bool false)/\w=w'):=fun w=>(has_any (x n) k w q1 q2 h0k hk7).mono fun _ _ ⟨h1,h2⟩=>⟨by rw[h1,Int.toNat_natCast,ht],h2⟩
    clear ht;go_wp2_with (first|(go_at_call 44;with_reducible refine(K1.out _).mono ?_;rintro e w' ⟨rfl,rfl⟩))
    have hx128: ∀j,j<m->(x j).toNat<128:=fun j hj=>by have:=HX.out j hj;have:=HV.lt128 hj;omega
    refine(flip_any m g m c' (fun i=>(x i).toNat) n k w3 g (g+1) (HO3.congr (fun j hj=>by have:=HX.out j (by omega);show Value.int .i64 (x j)=.int .i64 (((x j).toNat:Nat):Int);congr 1;omega)) (by have:=HG.out.2;omega) hn7 (by omega) (by omega) Hne.out hx128).mono ?_;rintro e w4 ⟨rfl,hO4,hf4⟩;have z4:=hf4.size;have j2:=frC hf4 i2 xx1 (by have:=HG.out.1;omega);have j3:=frC hf4 i3 xx1 (by have:=HG.out.1;omega);have j4:=frZ hf4 i4 xx1 (by have:=HG.out.1;omega);have j5:=frZ hf4 i5 xx1 (by have:=HG.out.1;omega);have j6:=frC hf4 i6 xx2 (by have:=HG.out.2;omega);have j7:=frC hf4 i7 xx2 (by have:=HG.out.2;omega);have HO4:=hh_ hO4;have HB4:Hid (Below w.heap.size w w4):=HB3.trans (hf4.below (by have:=HG.out.1;omega) (by omega));clear hO4 hf4 i0 i1 i2 i3 i4 i5 i6 i7 HO3 HB3 HX HV HK3 q0 q1 q2 K1 hx128 hd hd';go_wp2;have F:Fr (w.heap.size+1) (w.heap.size+2) w4 _:=((Fr.refl _ _ w4).setCell (p:=⟨w.heap.size+1,0,none⟩) nr_ (Nat.lt_succ_self _) (Value.int IntKind.i64 m)).setCell (p:=⟨w.heap.size+1,1,none⟩) nr_ (Nat.lt_succ_self _) (Value.slice (some ⟨g,0,none⟩) m c')
    have O1:=((HO4.keep F (.inr HG.out.1)).mono HG.out.1 (by have:=HG.out.2;simp;omega:g+1<=((w4.setCell ⟨w.heap.size+1,0,none⟩ (Value.int IntKind.i64 m)).setCell ⟨w.heap.size+1,1,none⟩ (Value.slice (some ⟨g,0,none⟩) m c')).heap.size));exact bodyPost_ret (v:=.tuple #[.agg #[.int .i64 m,.slice (some ⟨g,0,none⟩) m c'],.bool true]) (by simp[results,Tryz.results89,go_sem, *]) rfl ⟨some ⟨g,0,none⟩,c',by rw[hyes.out],O1.congr (fun j hj=>by unfold aeX;rw[hyes.out];simp),HB4.trans (F.below (by omega) (by omega))⟩
   ·have hno:Hid (aeB (m:Int) m x n k=false):=by
     show _=_;cases hb:aeB (m:Int) m x n k
     ·rfl
     ·have:=(aeB_parts hb).2.2;simp[ht] at this
    have K1:Hid (∀w,Calls Tryz.prog 44 #[.int .i64 (x n),.int .i64 k] w fun e w'=>e=.returned (.bool true)/\w=w'):=fun w=>(has_any (x n) k w q1 q2 h0k hk7).mono fun _ _ ⟨h1,h2⟩=>⟨by rw[h1,Int.toNat_natCast,ht],h2⟩
    clear ht;go_wp2_with (first|(go_at_call 44;with_reducible refine(K1.out _).mono ?_;rintro e w' ⟨rfl,rfl⟩))
    have F:Fr (w.heap.size+1) (w.heap.size+2) w3 _:=((Fr.refl _ _ w3).setCell (p:=⟨w.heap.size+1,0,none⟩) nr_ (Nat.lt_succ_self _) (Value.int IntKind.i64 m)).setCell (p:=⟨w.heap.size+1,1,none⟩) nr_ (Nat.lt_succ_self _) (Value.slice (some ⟨g,0,none⟩) m c');have O1:=((HO3.keep F (.inr HG.out.1)).mono HG.out.1 (by have:=HG.out.2;simp;omega:g+1<=((w3.setCell ⟨w.heap.size+1,0,none⟩ (Value.int IntKind.i64 m)).setCell ⟨w.heap.size+1,1,none⟩ (Value.slice (some ⟨g,0,none⟩) m c')).heap.size));exact bodyPost_ret (v:=.tuple #[.agg #[.int .i64 m,.slice (some ⟨g,0,none⟩) m c'],.bool false]) (by simp[results,Tryz.results89,go_sem, *]) rfl ⟨some ⟨g,0,none⟩,c',by rw[hno.out],O1.congr (fun j hj=>by rw[aeX_no hno.out]),HB3.trans (F.below (by omega) (by omega))⟩
 ·have hno:Hid (aeB (m:Int) m x v u=false):=by
   show _=_;cases hb:aeB (m:Int) m x v u
   ·rfl
   ·obtain⟨_,⟨h1,h2,h3,h4,h5⟩,h6⟩:=aeB_parts hb;exact absurd ⟨h1,h2,h3,h4⟩ hin
  rw[decide_eq_false hin];clear hin;go_wp2;have F:Fr (w.heap.size+1) (w.heap.size+2) w3 _:=((Fr.refl _ _ w3).setCell (p:=⟨w.heap.size+1,0,none⟩) nr_ (Nat.lt_succ_self _) (Value.int IntKind.i64 m)).setCell (p:=⟨w.heap.size+1,1,none⟩) nr_ (Nat.lt_succ_self _) (Value.slice (some ⟨g,0,none⟩) m c');have O1:=((HO3.keep F (.inr HG.out.1)).mono HG.out.1 (by have:=HG.out.2;simp;omega:g+1<=((w3.setCell ⟨w.heap.size+1,0,none⟩ (Value.int IntKind.i64 m)).setCell ⟨w.heap.size+1,1,none⟩ (Value.slice (some ⟨g,0,none⟩) m c')).heap.size));exact bodyPost_ret (v:=.tuple #[.agg #[.int .i64 m,.slice (some ⟨g,0,none⟩) m c'],.bool false]) (by simp[results,Tryz.results89,go_sem, *]) rfl ⟨some ⟨g,0,none⟩,c',by rw[hno.out],O1.congr (fun j hj=>by rw[aeX_no hno.out]),HB3.trans (F.below (by omega) (by omega))⟩
end Go.Proofs.YtfabbohijhjpcaaGreatDoor
/-
 Plain: a graph and a list of edges more.
-/
namespace Go.Proofs.YtfabbohijhjpcaaGreatDoor
theorem aeX_ok {sz:Int} {m:Nat} {x:Nat->Int} {v u:Int} (h:okB sz m x=true):okB sz m (aeX sz m x v u)=true:=by
 cases hb:aeB sz m x v u
 ·rw[aeX_no hb];exact h
 ·obtain⟨_,⟨h1,h2,h3,h4,h5⟩,h6⟩:=aeB_parts hb;obtain⟨r,rfl,vg,hx⟩:=okB_ok' h;refine okB_yes ⟨addN (fun i=>(x i).toNat) v.toNat u.toNat,rfl,?_,fun i hi=> ?_⟩
  ·exact(vg.congr (s:=fun i=>(x i).toNat) (fun i hi=>by show r i=(x i).toNat;rw[hx i hi];simp)).add (by omega) (by omega) (by omega)
  ·unfold aeX;rw[hb];rfl
end Go.Proofs.YtfabbohijhjpcaaGreatDoor
/-
 Contract: a graph and one edge more, of the reference.
-/
namespace Go.Proofs.YtfabbohijhjpcaaGreatDoor
open Go.RowKit
noncomputable def prB (sz:Int) (m:Nat) (x:Nat->Int) (v u:Int):Bool:=okB sz m x&&decide (0<=v/\0<=u/\v<sz/\u<sz/\v≠u)
theorem prB_eq {sz:Int} {m:Nat} {x:Nat->Int} {v u:Int} {a b:Bool} (h:okB sz m x=a) (h2:decide (0<=v/\0<=u/\v<sz/\u<sz/\v≠u)=b):prB sz m x v u=(a&&b):=by unfold prB;rw[h,h2]
theorem l2Pair_any (sz:Int) (A:Option Addr) (m c:Nat) (x:Nat->Int) (v u:Int) (w:World) (B:Nat) (h:Rd w B A m c x) (hB:B<=w.heap.size) (hm:m<=1048576):
 Calls Tryz.prog 153 #[.agg #[.int .i64 sz,.slice A m c],.int .i64 v,.int .i64 u] w fun e w'=>e=.returned (.bool (prB sz m x v u))/\Below w.heap.size w w':=by
 obtain⟨W,hW⟩: ∃W,W=(w.alloc (Obj.cells #[.int .i64 sz,.slice A m c] 26)):=⟨_,rfl⟩;have HB:Hid (Below w.heap.size w W):=by rw[hW];exact(br_.alloc nr_ _)
 have a0:w.heap.size<W.heap.size:=by rw[hW];simp
 have e0:W.cell? ⟨w.heap.size,0,none⟩=some (.int .i64 sz):=by rw[hW];simp[go_sem]
 have e1:W.cell? ⟨w.heap.size,1,none⟩=some (.slice A m c):=by rw[hW];simp[go_sem]
 have k1:=hh_ (h.keep (HB.mono hB) nr_);have HW:=hh_ hW;clear hW h;go_enter Tryz.func153,Tryz.ntmps153;go_wp2_with fail
 rw[<-HW.out];refine(IsGraph_sany sz A m c x W B k1.out (by omega) hm).mono ?_;rintro e w1 ⟨rfl,hb1⟩;have f0:=up hb1 e0 a0;have f1:=up hb1 e1 a0;have HB1:Hid (Below w.heap.size w w1):=HB.trans (hb1.mono (by omega));clear HW e0 e1 hb1 k1 HB;cases ho:okB sz m x
 ·have hf:Hid (prB sz m x v u=false):=by show prB sz m x v u=_;unfold prB;rw[ho];rfl
  clear ho;go_wp2;go_ret;exact⟨ret_bool hf.symm,HB1.out⟩
 ·have Ho:=hh_ ho;clear ho;by_cases h1:0<=v
  ·by_cases h2:0<=u
   ·by_cases h3:v<sz
    ·by_cases h4:u<sz
     ·by_cases h5:v=u
      ·have hn:Hid (prB sz m x v u=false):=prB_eq Ho.out (decide_eq_false (fun h=>h.2.2.2.2 h5));have h6:(v !=u)=false:=by simp[h5]
       clear h5;go_wp2;go_ret;exact⟨ret_bool hn.symm,HB1.out⟩
      ·have hn:Hid (prB sz m x v u=true):=prB_eq Ho.out (decide_eq_true ⟨h1,h2,h3,h4,h5⟩);have h6:(v !=u)=true:=by simp[h5]
       clear h5;go_wp2;go_ret;exact⟨ret_bool hn.symm,HB1.out⟩
     ·have hn:Hid (prB sz m x v u=false):=prB_eq Ho.out (decide_eq_false (fun h=>h4 h.2.2.2.1));go_wp2;go_ret;exact⟨ret_bool hn.symm,HB1.out⟩
    ·have hn:Hid (prB sz m x v u=false):=prB_eq Ho.out (decide_eq_false (fun h=>h3 h.2.2.1));go_wp2;go_ret;exact⟨ret_bool hn.symm,HB1.out⟩
   ·have hn:Hid (prB sz m x v u=false):=prB_eq Ho.out (decide_eq_false (fun h=>h2 h.2.1));go_wp2;go_ret;exact⟨ret_bool hn.symm,HB1.out⟩
  ·have hn:Hid (prB sz m x v u=false):=prB_eq Ho.out (decide_eq_false (fun h=>h1 h.1));go_wp2;go_ret;exact⟨ret_bool hn.symm,HB1.out⟩
set_option maxRecDepth 100000 in
theorem AddEdge_s (sz:Int) (A:Option Addr) (m c:Nat) (x:Nat->Int) (v u:Int) (w:World) (B:Nat) (h:Rd w B A m c x) (hB:B<=w.heap.size) (hm:m<=1048576):
 Calls Tryz.prog 91 #[.agg #[.int .i64 sz,.slice A m c],.int .i64 v,.int .i64 u] w fun e w'=> ∃A' c',e=.returned (.tuple #[.agg #[.int .i64 sz,.slice A' m c'],.bool (aeB sz m x v u)])/\Own w' (w.heap.size+2) w'.heap.size 3 1 A' m c' (fun j=> .int .i64 (aeX sz m x v u j))/\Below w.heap.size w w':=by
 obtain⟨W,hW⟩: ∃W,W=((w.alloc (Obj.cells #[.int .i64 sz,.slice A m c] 26)).alloc (Obj.cells #[.int .i64 0,.slice none 0 0] 26)):=⟨_,rfl⟩;have HB:Hid (Below w.heap.size w W):=by rw[hW];exact(br_.alloc nr_ _).alloc (by simp) _
 have HZ:Hid (w.heap.size+2=W.heap.size):=by rw[hW];simp[Hid]
 have e0:W.cell? ⟨w.heap.size,0,none⟩=some (.int .i64 sz):=by rw[hW];simp[go_sem]
 have e1:W.cell? ⟨w.heap.size,1,none⟩=some (.slice A m c):=by rw[hW];simp[go_sem]
 have e2:W.cell? ⟨w.heap.size+1,0,none⟩=some (.int .i64 0):=by rw[hW];simp[go_sem]
 have e3:W.cell? ⟨w.heap.size+1,1,none⟩=some (.slice none 0 0):=by rw[hW];simp[go_sem]
 have e4:W.frozen? ⟨w.heap.size+1,0,none⟩=false:=by rw[hW];simp[go_sem]
 have e5:W.frozen? ⟨w.heap.size+1,1,none⟩=false:=by rw[hW];simp[go_sem]
 have HK:=hh_ (h.keep (HB.mono hB) nr_);have HW:=hh_ hW;clear hW h;go_enter Tryz.func91,Tryz.ntmps91;go_wp2_with fail
 rw[<-HW.out];refine(l2Copy_any sz A m c x W B HK.out (by have:=HZ.out;omega) hm).mono ?_;rintro e w1 ⟨A',c',rfl,hO,hb1⟩;have f0:=up hb1 e0 (by have:=HZ.out;omega);have f1:=up hb1 e1 (by have:=HZ.out;omega);have f2:=up hb1 e2 (by have:=HZ.out;omega);have f3:=up hb1 e3 (by have:=HZ.out;omega);have f4:=upf hb1 e4 (by have:=HZ.out;omega);have f5:=upf hb1 e5 (by have:=HZ.out;omega);have z1:=hb1.size;have zz0:w.heap.size<w1.heap.size:=by have:=HZ.out;omega
 have zz1:w.heap.size+1<w1.heap.size:=by have:=HZ.out;omega
 have HO1:=hh_ hO;have HB1:=hh_ hb1;obtain⟨W2,hW2⟩: ∃W2,W2=(w1.alloc (Obj.cells #[.int .i64 sz,.slice A' m c'] 26)):=⟨_,rfl⟩;have hb2:Below w1.heap.size w1 W2:=by rw[hW2];exact(br_.alloc nr_ _)
 have z2:w1.heap.size<W2.heap.size:=by rw[hW2];simp
 have g0:=up hb2 f0 zz0;have g1:=up hb2 f1 zz0;have g2:=up hb2 f2 zz1;have g3:=up hb2 f3 zz1;have g4:=upf hb2 f4 zz1;have g5:=upf hb2 f5 zz1;have g6:W2.cell? ⟨w1.heap.size,0,none⟩=some (.int .i64 sz):=by rw[hW2];simp[go_sem]
 have g7:W2.cell? ⟨w1.heap.size,1,none⟩=some (.slice A' m c'):=by rw[hW2];simp[go_sem]
 have HB2:=hh_ hb2;have HW2:=hh_ hW2;have HK2:Hid (Rd W2 W2.heap.size A m c x):=HK.keep ((HB1.trans (HB2.mono z1)).mono (by have:=HZ.out;omega)) (by have:=HZ.out;omega);have HO2:Hid (Own W2 (W.heap.size+2) w1.heap.size 3 1 A' m c' (fun j=> .int .i64 (x j))):=HO1.keepB HB2.out nr_;clear hO hb1 HW e0 e1 e2 e3 e4 e5 hb2 hW2;go_wp2_with fail
 rw[<-HW2.out];clear HW2 f0 f1 f2 f3 f4 f5;refine(l2Pair_any sz A m c x v u W2 W2.heap.size HK2.out nr_ hm).mono ?_;rintro e w3 ⟨rfl,hb3⟩;have z3:=hb3.size;have yy0:w.heap.size<W2.heap.size:=by omega
 have yy1:w.heap.size+1<W2.heap.size:=by omega
 have i0:=up hb3 g0 yy0;have i1:=up hb3 g1 yy0;have i2:=up hb3 g2 yy1;have i3:=up hb3 g3 yy1;have i4:=upf hb3 g4 yy1;have i5:=upf hb3 g5 yy1;have i6:=up hb3 g6 z2;have i7:=up hb3 g7 z2;have HO3:Hid (Own w3 (W.heap.size+2) w1.heap.size 3 1 A' m c' (fun j=> .int .i64 (x j))):=HO2.keepB hb3 (by omega);have HK3:Hid (Rd w3 w3.heap.size A m c x):=HK2.keep hb3 z3;have HB3:Hid (Below w.heap.size w w3):=HB.trans ((HB1.trans ((HB2.trans (hb3.mono (by omega))).mono z1)).mono (by have:=HZ.out;omega));have xx0:w.heap.size<w3.heap.size:=by omega
 have xx1:w.heap.size+1<w3.heap.size:=by omega
 have xx2:w1.heap.size<w3.heap.size:=by omega
 clear g0 g1 g2 g3 g4 g5 g6 g7 hb3 HO1 HO2 HK HK2 HB1 HB2 HB yy0 yy1;obtain⟨t,ht⟩: ∃t,t=prB sz m x v u:=⟨_,rfl⟩;rw[<-ht];have Ht:=hh_ ht;clear ht;cases t
 ·have hno:Hid (aeB sz m x v u=false):=by
   show _=_;cases hb:aeB sz m x v u
   ·rfl
   ·obtain⟨ho,⟨h1,h2,h3,h4,h5⟩,h6⟩:=aeB_parts hb;have:=Ht.out;unfold prB at this;rw[ho,decide_eq_true (⟨h1,h3,h2,h4,h5⟩:0<=v/\0<=u/\v<sz/\u<sz/\v≠u)] at this;cases this
  clear Ht;go_wp2;have F:Fr (w.heap.size+1) (w.heap.size+2) w3 _:=((Fr.refl _ _ w3).setCell (p:=⟨w.heap.size+1,0,none⟩) nr_ (Nat.lt_succ_self _) (Value.int IntKind.i64 sz)).setCell (p:=⟨w.heap.size+1,1,none⟩) nr_ (Nat.lt_succ_self _) (Value.slice A' m c');have O1:=((HO3.keep F (.inr (by have:=HZ.out;omega))).mono (lo':=w.heap.size+2) (by have:=HZ.out;omega) (Nat.le_trans (by omega) F.size));exact bodyPost_ret (v:=.tuple #[.agg #[.int .i64 sz,.slice A' m c'],.bool false]) (by simp[results,Tryz.results91,go_sem, *]) rfl ⟨A',c',by rw[hno.out],O1.congr (fun j hj=>by rw[aeX_no hno.out]),HB3.trans (F.below (by omega) (by omega))⟩
 ·have Hok:Hid (okB sz m x=true):=by
   show _=_;have:=Ht.out;unfold prB at this;cases ho:okB sz m x
   ·rw[ho] at this;cases this
   ·rfl
  obtain⟨h1,h3,h2,h4,h5⟩:0<=v/\0<=u/\v<sz/\u<sz/\v≠u:=by
   have:=Ht.out;unfold prB at this;rw[Hok.out] at this;simpa using this
  obtain⟨n,rfl⟩:=Int.eq_ofNat_of_zero_le h1;obtain⟨k,rfl⟩:=Int.eq_ofNat_of_zero_le h3;obtain⟨r,es,vg,hx⟩:=okB_ok' Hok.out;subst es;have hn1:=vg.n1;have hn7:=vg.n7;have HX:=hh_ hx;have HV:=hh_ vg;have Hne:Hid (n≠k):=by show n≠k;omega
  obtain⟨b,o,rfl,hb,hc⟩:=HK3.pos (by omega);have q0:=hc n (by omega);have q1:0<=x n:=by have:=HX.out n (by omega);omega
  have q2:x n<16777216:=by have:=HX.out n (by omega);have:=HV.lt128 (v:=n) (by omega);omega
  clear hx vg hc Ht h5;go_wp2_with fail
  refine(l2Edge_any (m:Int) b o m c w3 n k (x n) q0 hb (by omega) q1 q2 (by omega)).mono ?_;rintro e w4 ⟨rfl,hb4⟩;have z4:=hb4.size;have j2:=up hb4 i2 xx1;have j3:=up hb4 i3 xx1;have j4:=upf hb4 i4 xx1;have j5:=upf hb4 i5 xx1;have j6:=up hb4 i6 xx2;have j7:=up hb4 i7 xx2;have HO4:Hid (Own w4 (W.heap.size+2) w1.heap.size 3 1 A' m c' (fun j=> .int .i64 (x j))):=HO3.keepB hb4 (by omega);have HB4:Hid (Below w.heap.size w w4):=HB3.trans (hb4.mono (by omega));have ww1:w.heap.size+1<w4.heap.size:=by omega
  have ww2:w1.heap.size<w4.heap.size:=by omega
  clear i0 i1 i2 i3 i4 i5 i6 i7 HO3 HB3 HK3 hb4 q0 hb;cases ht:(x n).toNat.testBit k
  ·have hyes:Hid (aeB (m:Int) m x n k=true):=by
    show _=_;unfold aeB;rw[Hok.out,decide_eq_true (⟨by omega,by omega,by omega,by omega,by have:=Hne.out;omega⟩:0<=(n:Int)/\(n:Int)<m/\0<=(k:Int)/\(k:Int)<m/\(n:Int)≠k)];simp[ht]
   have ht1:(r n).testBit k=false:=by rw[HX.out n (by omega),Int.toNat_natCast] at ht;exact ht
   have ht2:(r k).testBit n=false:=by rw[<-HV.sym n k (by omega) (by omega)];exact ht1
   have hx128: ∀j,j<m->r j<128:=fun j hj=>HV.lt128 hj
   obtain⟨g,rfl,hg1,hg2,hOc⟩:=HO4.only (by omega);have HO5:Hid (Own w4 g (g+1) 3 1 (some ⟨g,0,none⟩) m c' (fun j=> .int .i64 (r j:Int))):=hOc.congr (fun j hj=>by rw[HX.out j (by omega)]);obtain⟨g',e1,_,_,hg3,hcg,hfg⟩:=HO5.at_ (by omega);simp only[Option.some.injEq,Addr.mk.injEq,and_true] at e1;subst e1;have c1:=hcg n (by omega);have c2:=hcg k (by omega);have s1:wrap64 ((r n:Int)+2^k)=((r n^^^2^k:Nat):Int):=by
    have e:=add_pow_bit ht1;have h2:=two_pow_int k (by omega);have h3:=hx128 n (by omega);rw[<-e];have e2:((r n+2^k:Nat):Int)=(r n:Int)+2^k:=by simp
    rw[e2];exact Go.IntWalk.wrap64_in ((r n:Int)+2^k) (by omega)
   have s2:wrap64 ((r k:Int)+2^n)=((r k^^^2^n:Nat):Int):=by
    have e:=add_pow_bit ht2;have h2:=two_pow_int n (by omega);have h3:=hx128 k (by omega);rw[<-e];have e2:((r k+2^n:Nat):Int)=(r k:Int)+2^n:=by simp
    rw[e2];exact Go.IntWalk.wrap64_in ((r k:Int)+2^n) (by omega)
   have f1:=hfg n;have f2:=hfg k;have p1:=pow_shl n (by omega);have p2:=pow_shl k (by omega);have i1:(n:Int)<m:=by omega
   have i2:(k:Int)<m:=by omega
   have HX128:=hh_ hx128;have HXK:Hid (∀j,j<m->x j=(r j:Int)):=HX.out;clear HO4 hOc hcg hfg HX HV hx128 ht ht1 ht2 q1 q2;go_wp2;go_region
   have hgn:g≠w1.heap.size:=by omega
   have hgm:g≠w.heap.size+1:=by have:=HZ.out;omega
   have hne2:(k=n)=False:=by have:=Hne.out;simp;omega
   have hne3:(n=k)=False:=by have:=Hne.out;simp;omega
   go_wp2;go_region
   obtain⟨W5,hW5⟩: ∃W5,W5=((w4.setCell ⟨g,n,none⟩ (.int .i64 ((r n^^^2^k:Nat):Int))).setCell ⟨g,k,none⟩ (.int .i64 ((r k^^^2^n:Nat):Int))).drew.drew:=⟨_,rfl⟩;have O5:Hid (Own W5 g (g+1) 3 1 (some ⟨g,0,none⟩) m c' (fun j=> .int .i64 (addN r n k j))):=by
    rw[hW5];refine((((HO5.set_ n _).set_ k _).drew).drew).congr (fun j hj=> ?_);have hne:=Hne.out;unfold addN;by_cases h1:j=k
    ·subst h1;rw[if_pos rfl,if_neg (fun e=>hne e.symm),if_pos rfl]
    ·rw[if_neg h1];by_cases h2:j=n
     ·subst h2;rw[if_pos rfl,if_pos rfl]
     ·rw[if_neg h2,if_neg h2,if_neg h1]
   have F5:Fr g (g+1) w4 W5:=by rw[hW5];exact(((Fr.refl _ _ w4).setCell (p:=⟨g,n,none⟩) nr_ (Nat.lt_succ_self _) _).setCell (p:=⟨g,k,none⟩) nr_ (Nat.lt_succ_self _) _).drew.drew
   have hgl:g<w1.heap.size:=hg2;have hgh:w.heap.size+2<=g:=by have:=HZ.out;omega
   have l2:=frC F5 j2 ww1 (by omega);have l3:=frC F5 j3 ww1 (by omega);have l4:=frZ F5 j4 ww1 (by omega);have l5:=frZ F5 j5 ww1 (by omega);have l6:=frC F5 j6 ww2 (by omega);have l7:=frC F5 j7 ww2 (by omega);have z5:=F5.size;have HB5:Hid (Below w.heap.size w W5):=HB4.trans (F5.below (by omega) (by omega));rw[<-hW5];have HXr:Hid (∀j,j<m->aeX (m:Int) m x n k j=(addN r n k j:Int)):=by
    intro j hj;unfold aeX;rw[hyes.out];simp only[if_true];unfold addN;simp only[Int.toNat_natCast,HXK.out j hj]
   clear hW5 F5 j2 j3 j4 j5 j6 j7 c1 c2 s1 s2 f1 f2 p1 p2 HB4 HO5 hne2 hne3 hgn hgm;go_wp2;have F:Fr (w.heap.size+1) (w.heap.size+2) W5 _:=((Fr.refl _ _ W5).setCell (p:=⟨w.heap.size+1,0,none⟩) nr_ (Nat.lt_succ_self _) (Value.int IntKind.i64 m)).setCell (p:=⟨w.heap.size+1,1,none⟩) nr_ (Nat.lt_succ_self _) (Value.slice (some ⟨g,0,none⟩) m c');have O1:=((O5.keep F (.inr hgh)).mono (lo':=w.heap.size+2) hgh (Nat.le_trans (by omega) F.size));exact bodyPost_ret (v:=.tuple #[.agg #[.int .i64 m,.slice (some ⟨g,0,none⟩) m c'],.bool true]) (by simp[results,Tryz.results91,go_sem, *]) rfl ⟨some ⟨g,0,none⟩,c',by rw[hyes.out],O1.congr (fun j hj=>by rw[HXr.out j (by omega)]),HB5.trans (F.below (by omega) (by omega))⟩
  ·have hno:Hid (aeB (m:Int) m x n k=false):=by
    show _=_;cases hb:aeB (m:Int) m x n k
    ·rfl
    ·have:=(aeB_parts hb).2.2;simp[ht] at this
   clear ht;go_wp2;have F:Fr (w.heap.size+1) (w.heap.size+2) w4 _:=((Fr.refl _ _ w4).setCell (p:=⟨w.heap.size+1,0,none⟩) nr_ (Nat.lt_succ_self _) (Value.int IntKind.i64 m)).setCell (p:=⟨w.heap.size+1,1,none⟩) nr_ (Nat.lt_succ_self _) (Value.slice A' m c');have O1:=((HO4.keep F (.inr (by have:=HZ.out;omega))).mono (lo':=w.heap.size+2) (by have:=HZ.out;omega) (Nat.le_trans (by omega) F.size));exact bodyPost_ret (v:=.tuple #[.agg #[.int .i64 m,.slice A' m c'],.bool false]) (by simp[results,Tryz.results91,go_sem, *]) rfl ⟨A',c',by rw[hno.out],O1.congr (fun j hj=>by rw[aeX_no hno.out]),HB4.trans (F.below (by omega) (by omega))⟩
end Go.Proofs.YtfabbohijhjpcaaGreatDoor
/-
 Contract: a graph and a list of edges more, of the program.
-/
namespace Go.Proofs.YtfabbohijhjpcaaGreatDoor
open Go.RowKit
end Go.Proofs.YtfabbohijhjpcaaGreatDoor
/-
 Contract: a graph and a list of edges more, of the reference.
-/
namespace Go.Proofs.YtfabbohijhjpcaaGreatDoor
open Go.RowKit
end Go.Proofs.YtfabbohijhjpcaaGreatDoor
/-
 Contracts: is a graph chordal? The program's answer.
-/
namespace Go.Proofs.YtfabbohijhjpcaaGreatDoor
open Go.RowKit
noncomputable def chB (sz:Int) (m:Nat) (x:Nat->Int):Bool:=okB sz m x&&elimB (rw_ x) (2^m-1)
theorem chB_no {sz:Int} {m:Nat} {x:Nat->Int} (h:okB sz m x=false):chB sz m x=false:=by unfold chB;rw[h];rfl
theorem chB_eq {sz:Int} {m:Nat} {x:Nat->Int} {b:Bool} (h:okB sz m x=true) (h2:elimB (rw_ x) (2^m-1)=b):chB sz m x=b:=by unfold chB;rw[h,h2];rfl
theorem firstS_place {r:Nat->Nat} {left v:Nat} (h:firstS r left=some v): ∃k,∃hk:k<(listN left).length,(listN left)[k]=v/\cliq r (r v&&&left)=true/\ ∀j (hj:j<k),cliq r (r ((listN left)[j]'(by omega))&&&left)=false:=by
 unfold firstS at h;rw[List.find?_eq_some_iff_getElem] at h;obtain⟨h1,k,hk,h2,h3⟩:=h;exact⟨k,hk,h2,h1,fun j hj=>by have:=h3 j hj;simpa using this⟩
theorem firstS_none' {r:Nat->Nat} {left:Nat} (h:firstS r left=none): ∀j (hj:j<(listN left).length),cliq r (r (listN left)[j]&&&left)=false:=by
 intro j hj;unfold firstS at h;rw[List.find?_eq_none] at h;have:=h _ (List.getElem_mem hj);simpa using this
end Go.Proofs.YtfabbohijhjpcaaGreatDoor
/-
 Contracts: is a graph chordal? The reference's answer.
-/
namespace Go.Proofs.YtfabbohijhjpcaaGreatDoor
open Go.RowKit
end Go.Proofs.YtfabbohijhjpcaaGreatDoor
/-
 Contracts: is a vertex in a list? is a list a way? The program's tests.
-/
namespace Go.Proofs.YtfabbohijhjpcaaGreatDoor
open Go.RowKit
theorem fIdx_in {l:List Nat} {v:Nat} (h:v∈l): ∃k:Nat,fIdx (fun j=>l.getD j 0==v) l.length=(k:Int):=by
 unfold fIdx;cases hf:(List.range l.length).find? (fun j=>l.getD j 0==v) with
 |some k=>exact⟨k,rfl⟩
 |none=>
  exfalso;rw[List.find?_eq_none] at hf;obtain⟨i,hi,rfl⟩:=List.mem_iff_getElem.1 h;have:=hf i (List.mem_range.2 hi);simp[List.getD,hi] at this
theorem fIdx_out {l:List Nat} {v:Nat} (h:v∉l):fIdx (fun j=>l.getD j 0==v) l.length= -1:=by
 refine fIdx_no fun j hj=> ?_
 have:l[j]≠v:=fun e=>h (e▸List.getElem_mem hj)
 simpa [List.getD,hj] using this
abbrev RdN (w:World) (B:Nat) (A:Option Addr) (n c:Nat) (l:List Nat):Prop:=n=l.length/\Rd w B A n c (fun j=>((l.getD j 0:Nat):Int))
theorem Index_i (A:Option Addr) (c:Nat) (l:List Nat) (v:Nat) (w:World) (B:Nat) (h:Rd w B A l.length c (fun j=>((l.getD j 0:Nat):Int))) (hl:l.length<=1048576):
 Calls Tryz.prog 331 #[.slice A l.length c,.int .i64 v] w fun e w'=>e=.returned (.int .i64 (fIdx (fun j=>l.getD j 0==v) l.length))/\w=w':=by
 have HR:=hh_ h;clear h;go_enter Tryz.func331,Tryz.ntmps331;go_wp2;go_loop [8] (fun i=> ∃k:Nat,k<=l.length/\i=.int .i64 k/\Hid (∀j,j<k->(l.getD j 0==v)=false)) (fun i=>l.length-(intOf i).toNat);case atStart=>exact⟨0,Nat.zero_le _,rfl,(fun j hj=>absurd hj (by omega))⟩
 case round=>
  obtain⟨k,hk,rfl,hall⟩:=hrel;by_cases hlt:k<l.length
  ·obtain⟨b,o,rfl,hb,hc⟩:=HR.pos (by omega);have q0:=hc k hlt;obtain⟨u,hu⟩: ∃u:Nat,u=l.getD k 0:=⟨_,rfl⟩;rw[<-hu] at q0;have Hu:=hh_ hu;have i1:(k:Int)<l.length:=by omega
   clear hc hu;by_cases hp:v=u
   ·have Hi:Hid (fIdx (fun j=>l.getD j 0==v) l.length=k):=fIdx_yes hlt (by show (l.getD k 0==v)=true;rw[<-Hu.out,hp];simp) hall.out;subst hp;go_wp2;go_ret;exact⟨ret_int Hi.symm,rfl⟩
   ·have hne:((v:Int)==(u:Int))=false:=by simp;omega
    have hne2:(v=u)=False:=by simp[hp]
    have Hp:Hid ((l.getD k 0==v)=false):=by show _=_;rw[<-Hu.out];simp;omega
    clear hp;go_wp2;go_round;case rel=>
     refine⟨k+1,by omega,by go_num,fun j hj=> ?_⟩;by_cases hjk:j<k
     ·exact hall.out j hjk
     ·obtain rfl:j=k:=by omega
      exact Hp.out
    case measure=>simp[intOf];omega
  ·have Hi:Hid (fIdx (fun j=>l.getD j 0==v) l.length= -1):=fIdx_no fun j hj=>hall.out j (by omega)
   have i1:(l.length:Int)<=(k:Int):=by omega
   go_wp2;go_ret;exact⟨ret_int Hi.symm,rfl⟩
theorem Contains_i (A:Option Addr) (n c:Nat) (l:List Nat) (v:Nat) (w:World) (B:Nat) (h:RdN w B A n c l) (hl:l.length<=1048576):
 Calls Tryz.prog 283 #[.slice A n c,.int .i64 v] w fun e w'=>e=.returned (.bool (decide (v∈l)))/\w=w':=by
 obtain⟨rfl,h⟩:=h;have HI:=hh_ (Index_i A c l v w B h hl);clear h;by_cases hv:v∈l
 ·obtain⟨k,hk⟩:=fIdx_in hv;rw[hk] at HI;have Hd:Hid (decide (v∈l)=true):=decide_eq_true hv;have k0:(0:Int)<=k:=by omega
  clear hk hv;go_enter Tryz.func283,Tryz.ntmps283;go_wp2_with fail
  refine HI.mono ?_;rintro e w' ⟨rfl,rfl⟩;go_wp2;go_ret;exact⟨ret_bool Hd.symm,rfl⟩
 ·rw[fIdx_out hv] at HI;have Hd:Hid (decide (v∈l)=false):=decide_eq_false hv;clear hv;go_enter Tryz.func283,Tryz.ntmps283;go_wp2_with fail
  refine HI.mono ?_;rintro e w' ⟨rfl,rfl⟩;go_wp2;go_ret;exact⟨ret_bool Hd.symm,rfl⟩
end Go.Proofs.YtfabbohijhjpcaaGreatDoor
/-
 Contracts: is a list a way? a list's copy; a list and one vertex more: the program's.
-/
namespace Go.Proofs.YtfabbohijhjpcaaGreatDoor
open Go.RowKit
/-! ### a list and one vertex more -/
theorem wpList_moreN (W:World) {ops:Array Oper} {rest:List Oper} {o:Oper} {a:Act} {Q:Exit->Act->World->Prop} (hgd:o.guard=none) (s y:Operand)
 (ho:o.op=.call {callee:=.builtin .append,args:= #[s,y],argTypes:= #[24,24]})
 (B:Nat) (A:Option Addr) (l:List Nat) (hA:A=none->l= []) (h:Rd W B A l.length l.length (fun j=>((l.getD j 0:Nat):Int))) (hB:B<=W.heap.size) (k:Nat) (hs:a.eval s=.slice A l.length l.length) (cx H:Nat) (hH:W.heap.size=H) (hy:a.eval y=.slice (some ⟨H,0,none⟩) 1 cx)
 (hn:l.length<=1073741824)
 (hK: ∀g cap w',Own w' W.heap.size w'.heap.size 3 1 (some ⟨g,0,none⟩) (l.length+1) cap (ni (l++ [k]))->Below W.heap.size W w'->wpList Tryz.prog ops Q rest (a.put o.dst (.slice (some ⟨g,0,none⟩) (l.length+1) cap)) w'):
 wpList Tryz.prog ops Q (o::rest) a (W.alloc (Obj.cells #[.int .i64 (k:Int)] 3)):=by
 subst hH;obtain⟨i,hi',hzz⟩:=Option.map_eq_some_iff.1 info_int;simp only[Prod.mk.injEq] at hzz;obtain⟨hz,hsize,hbytes⟩:=hzz;have hr:=h.keep ((Below.refl B W).alloc hB (Obj.cells #[.int .i64 (k:Int)] 3)) nr_;refine wpList_append_grows (P:=Tryz.prog) _ hgd s y 24 ho 3 i _ 1 8 Tryz.underlying24 hi' hz hsize hbytes rfl (by omega) A l.length l.length ((List.range l.length).map fun j=> .int .i64 ((l.getD j 0:Nat):Int)) hs (fun e=>by have:=hA e;subst this;exact⟨rfl,rfl⟩) (by simp) ?_ ⟨W.heap.size,0,none⟩ 1 cx [.int .i64 (k:Int)] hy rfl (World.news_of_block (heap_alloc_new W (Obj.cells #[.int .i64 (k:Int)] 3))) (by simp[Value.oneCell']) (by omega) (by unfold maxLen;omega) (by omega) ?_
 ·intro b e j u hj;have hlt:j<l.length:=by
   have:=(List.getElem?_eq_some_iff.1 hj).1;simpa using this
  obtain⟨b',o',e2,_,hc⟩:=hr.2 (by omega);rw[e] at e2;simp only[Option.some.injEq] at e2;subst e2;have hadd:(⟨b',o',none⟩:Addr).add j=⟨b',o'+j,none⟩:=by unfold Addr.add;split<;>simp_all
  rw[hadd,hc j hlt];simpa [hlt] using hj
 ·intro v' w' hrow hg;obtain⟨g,cap,rfl,hge,hlt⟩:=hrow.form (by omega);refine hK g cap w' ((Own.of_row hrow (fun j hj=> ?_)).mono (by simp) nr_) ((br_.alloc nr_ _).trans (br_.grown hg (by simp) (fun k hk=>by cases hk)));rw[List.getElem?_append];simp only[List.length_map,List.length_range];by_cases hj2:j<l.length
  ·rw[if_pos hj2,ni_left (by omega)];unfold ni;simp[hj2]
  ·rw[if_neg hj2];obtain rfl:j=l.length:=by omega
   rw[Nat.sub_self];have:=ni_news (l:=l) (k:=k) 0 (by omega);rw[Nat.mul_one,Nat.add_zero] at this;exact this
end Go.Proofs.YtfabbohijhjpcaaGreatDoor
/-
 What the searches for ways answer, as plain functions.
-/
namespace Go.Proofs.YtfabbohijhjpcaaGreatDoor
open Go.RowKit
end Go.Proofs.YtfabbohijhjpcaaGreatDoor
/-
 Contracts: the reference's search for a way through all vertices.
-/
namespace Go.Proofs.YtfabbohijhjpcaaGreatDoor
open Go.RowKit
theorem l8Has_s (A:Option Addr) (n c:Nat) (l:List Nat) (v:Nat) (w:World) (B:Nat) (h:RdN w B A n c l) (hl:l.length<=1048576):
 Calls Tryz.prog 256 #[.slice A n c,.int .i64 v] w fun e w'=>e=.returned (.bool (decide (v∈l)))/\w=w':=by
 obtain⟨rfl,h⟩:=h;have HR:=hh_ h;clear h;go_enter Tryz.func256,Tryz.ntmps256;go_wp2;go_loop [5] (fun i=> ∃k:Nat,k<=l.length/\i=.int .i64 k/\Hid (∀j (hj:j<l.length),j<k->l[j]≠v)) (fun i=>l.length-(intOf i).toNat);case atStart=>exact⟨0,Nat.zero_le _,rfl,(fun j hj hk=>absurd hk (by omega))⟩
 case round=>
  obtain⟨k,hk,rfl,hall⟩:=hrel;by_cases hlt:k<l.length
  ·obtain⟨b,o,rfl,hb,hc⟩:=HR.pos (by omega);have q0:=hc k hlt;obtain⟨u,hu⟩: ∃u:Nat,u=l[k]:=⟨_,rfl⟩;have e2:l.getD k 0=u:=by rw[hu];simp[List.getD,hlt]
   rw[e2] at q0;have Hu:=hh_ hu;have i1:(k:Int)<l.length:=by omega
   clear hc hu e2;by_cases hp:u=v
   ·have Hd:Hid (decide (v∈l)=true):=decide_eq_true (by rw[<-hp,Hu.out];exact List.getElem_mem hlt);subst hp;go_wp2;go_ret;exact⟨ret_bool Hd.symm,rfl⟩
   ·have hne:((u:Int)==(v:Int))=false:=by simp;omega
    have hne2:(u=v)=False:=by simp[hp]
    have Hp:=hh_ hp;clear hp;go_wp2;go_round;case rel=>
     refine⟨k+1,by omega,by go_num,fun j hj hjk=> ?_⟩;by_cases hjk2:j<k
     ·exact hall.out j hj hjk2
     ·obtain rfl:j=k:=by omega
      rw[<-Hu.out];exact Hp.out
    case measure=>simp[intOf];omega
  ·have Hd:Hid (decide (v∈l)=false):=decide_eq_false fun h=>by
    obtain⟨j,hj,e⟩:=List.mem_iff_getElem.1 h;exact hall.out j hj (by omega) e
   have i1:(l.length:Int)<=(k:Int):=by omega
   go_wp2;go_ret;exact⟨ret_bool Hd.symm,rfl⟩
theorem step_appendG (w:World) {ops:Array Oper} {o:Oper} {a:Act} {K:Act->World->Prop} {Q:Exit->Act->World->Prop} {E:Prop} {lo hi B n c m c2:Nat} {A A2:Option Addr} {x:Nat->Value} {y:Nat->Int} (hgd:o.guard=none) (s z:Operand)
 (ho:o.op=.call {callee:=.builtin .append,args:= #[s,z],argTypes:= #[24,24]})
 (hs:a.eval s=.slice A n c) (h:Own w lo hi 3 1 A n c x) (hz:a.eval z=.slice A2 m c2) (hr:Rd w B A2 m c2 y) (hlo:lo<=w.heap.size) (hn:n<=1073741824) (hm:m<=1073741824)
 (hK: ∀A' c' w',Own w' lo w'.heap.size 3 1 A' (n+m) c' (thenI n x y)->Below lo w w'->w.grownBy w' (Value.slice A n c).ownBlock->K (a.put o.dst (.slice A' (n+m) c')) w'):
 if Region.wanted o (yielded ops a.tmps)=true then Oper.wp Tryz.prog o a w K Q else E:=by
 have hw:Region.wanted o (yielded ops a.tmps)=true:=by simp[Region.wanted,hgd]
 rw[if_pos hw];obtain⟨A',c',w',hrun,h2,h3,_,h5⟩:=run_appendI w o.type h hr hlo hn hm;unfold Oper.wp execOp;simp only[ho,resolve,invoke,builtin,Sem.run_bind,Sem.run_pure,Result.andThen_ok,List.map_toArray,List.map_cons,List.map_nil,hs,hz,hrun];exact hK _ _ _ h2 h3 h5
end Go.Proofs.YtfabbohijhjpcaaGreatDoor
