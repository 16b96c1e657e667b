/- Lemmas. -/
import Derived.Test.YtfabbohijhjpcaaGreatDoorRbSimI
/-
-/
namespace Go.Proofs.YtfabbohijhjpcaaGreatDoor
open Go.RowKit
set_option maxHeartbeats 1600000
noncomputable def sgF (r:Nat->Nat) (left:Nat):Option Nat:=fsF (fun left v=>simB r v left) left
noncomputable def sgE (r:Nat->Nat) (left:Nat):Bool:=(redL (sgF r) left).isSome
theorem sgE_zero (r:Nat->Nat):sgE r 0=true:=by unfold sgE;rw[redL_zero];rfl
theorem sgE_none {r:Nat->Nat} {left:Nat} (h0:left≠0) (h:sgF r left=none):sgE r left=false:=by unfold sgE;rw[redL_none h0 h];rfl
theorem sgF_bit {r:Nat->Nat} {left v:Nat} (h:sgF r left=some v):v<7/\left.testBit v=true:=fsF_bit h
theorem sgE_some {r:Nat->Nat} {left v:Nat} (h:sgF r left=some v):sgE r left=sgE r (left^^^2^v):=by unfold sgE;rw[redL_some (sgF_bit h).2 h,Option.isSome_map]
theorem sgF_place {r:Nat->Nat} {left v:Nat} (h:sgF r left=some v): ∃k,∃hk:k<(listN left).length,(listN left)[k]=v/\simB r v left=true/\ ∀j (hj:j<k),simB r ((listN left)[j]'(by omega)) left=false:=fsF_place (p:=fun left v=>simB r v left) h
theorem sgF_none' {r:Nat->Nat} {left:Nat} (h:sgF r left=none): ∀j (hj:j<(listN left).length),simB r (listN left)[j] left=false:=fsF_none' (p:=fun left v=>simB r v left) h
theorem sgF_least {r:Nat->Nat} {left v:Nat} (hv:v<7) (hb:left.testBit v=true) (hy:simB r v left=true) (hmin: ∀u,u<v->left.testBit u=true->simB r u left=false):sgF r left=some v:=fsF_least (p:=fun left v=>simB r v left) hv hb hy hmin
theorem sgF_no {r:Nat->Nat} {left:Nat} (h: ∀u,u<7->left.testBit u=true->simB r u left=false):sgF r left=none:=fsF_no (p:=fun left v=>simB r v left) h
noncomputable def sgB (sz:Int) (m:Nat) (x:Nat->Int):Bool:=okB sz m x&&sgE (rw_ x) (2^m-1)
theorem sgB_no {sz:Int} {m:Nat} {x:Nat->Int} (h:okB sz m x=false):sgB sz m x=false:=by unfold sgB;rw[h];rfl
theorem sgB_eq {sz:Int} {m:Nat} {x:Nat->Int} {b:Bool} (h:okB sz m x=true) (h2:sgE (rw_ x) (2^m-1)=b):sgB sz m x=b:=by unfold sgB;rw[h,h2];rfl
theorem IndexFunc_M (A:Option Addr) (c:Nat) (l:List Nat) (p:Nat->Bool) (bg bl:Nat) (w:World) (B:Nat) (h:Rd w B A l.length c (fun j=>((l.getD j 0:Nat):Int))) (hB:B<=w.heap.size) (hl:l.length<=7)
 (HF:Hid (∀(j:Nat) (hj:j<l.length) (w':World),Below w.heap.size w w'->Calls Tryz.prog 249 #[.int .i64 (l[j]:Int),.pointer (some ⟨bg,0,none⟩),.pointer (some ⟨bl,0,none⟩)] w' fun e w''=>e=.returned (.bool (p j))/\Below w'.heap.size w' w'')):
 Calls Tryz.prog 235 #[.slice A l.length c,.func (.func 249) #[] #[.pointer (some ⟨bg,0,none⟩),.pointer (some ⟨bl,0,none⟩)]] w fun e w'=>e=.returned (.int .i64 (fIdx p l.length))/\Below w.heap.size w w':=by
 have HR:=hh_ h;clear h;go_enter Tryz.func235,Tryz.ntmps235;go_wp2;go_loopw [8] (fun i wr=> ∃k:Nat,k<=l.length/\i=.int .i64 k/\Hid (∀j,j<k->p j=false)/\Hid (Below w.heap.size w wr)) (fun i _=>l.length-(intOf i).toNat);case atStart=>exact⟨0,Nat.zero_le _,rfl,(fun j hj=>absurd hj (by omega)),br_⟩
 case round=>
  obtain⟨k,hk,rfl,hall,hbr⟩:=hrel;have zr:=hbr.size;by_cases hlt:k<l.length
  ·obtain⟨b,o,rfl,hb,hc⟩:=HR.pos (by omega);have q0:wr.cell? ⟨b,o+k,none⟩=some (.int .i64 (l[k]:Int)):=((hbr.cell (p:=⟨b,o+k,none⟩) (by show b<_;omega)).trans (hc k hlt)).trans (by simp[List.getD,hlt]);have K1:=hh_ (HF.out k hlt wr hbr.out);obtain⟨v,hv⟩: ∃v:Nat,v=l[k]:=⟨_,rfl⟩;rw[<-hv] at q0 K1;have i1:(k:Int)<l.length:=by omega
   clear hc hv;cases hp:p k
   ·rw[hp] at K1;have Hp:=hh_ hp;clear hp;go_wp2_with fail
    refine K1.mono ?_;rintro e w3 ⟨rfl,hb3⟩;have HB3:Hid (Below w.heap.size w w3):=hbr.trans (hb3.mono zr);clear hb3 hbr q0;go_wp2;go_roundw;case rel=>
     refine⟨k+1,by omega,by go_num,fun j hj=> ?_,HB3⟩;by_cases hjk:j<k
     ·exact hall.out j hjk
     ·obtain rfl:j=k:=by omega
      exact Hp.out
    case measure=>simp[intOf];omega
   ·rw[hp] at K1;have Hi:Hid (fIdx p l.length=k):=fIdx_yes hlt hp hall.out;clear hp;go_wp2_with fail
    refine K1.mono ?_;rintro e w3 ⟨rfl,hb3⟩;have HB3:Hid (Below w.heap.size w w3):=hbr.trans (hb3.mono zr);clear hb3 hbr q0;go_wp2;go_ret;exact⟨ret_int Hi.symm,HB3⟩
  ·have Hi:Hid (fIdx p l.length= -1):=fIdx_no fun j hj=>hall.out j (by omega)
   have i1:(l.length:Int)<=(k:Int):=by omega
   go_wp2;go_ret;exact⟨ret_int Hi.symm,hbr.out⟩
set_option maxRecDepth 100000 in
theorem smo_i (m:Nat) (A:Option Addr) (c:Nat) (x:Nat->Int) (s v bg bl:Nat) (w:World) (B:Nat) (h:Rd w B A m c x) (hB:B<=w.heap.size) (hok:okB m m x=true) (hs:s<2^m) (hv:v<m)
 (e0:w.cell? ⟨bg,0,none⟩=some (.int .i64 m)) (e1:w.cell? ⟨bg,1,none⟩=some (.slice A m c)) (e2:w.cell? ⟨bl,0,none⟩=some (.int .i64 s)):
 Calls Tryz.prog 249 #[.int .i64 (v:Int),.pointer (some ⟨bg,0,none⟩),.pointer (some ⟨bl,0,none⟩)] w fun e w'=>e=.returned (.bool (simB (rw_ x) v s))/\Below w.heap.size w w':=by
 have HG:Hid (GV w A m c (rw_ x)):=GV.of h hB hok;have KS:=hh_ (IsSimple_v HG hs hv);have HF:Hid (From w w):=From.refl w;clear h hok;go_enter Tryz.func249,Tryz.ntmps249;go_wp2_with fail
 refine KS.mono ?_;rintro e w1 ⟨rfl,hb1⟩;replace HF:=hh_ (HF.keep hb1);clear hb1;go_wp2;go_ret;exact⟨rfl,HF.below⟩
set_option maxRecDepth 100000 in
theorem SimpleOrder_i (sz:Int) (A:Option Addr) (m c:Nat) (x:Nat->Int) (w:World) (B:Nat) (h:Rd w B A m c x) (hB:B<=w.heap.size) (hm:m<=1048576):
 Calls Tryz.prog 167 #[.agg #[.int .i64 sz,.slice A m c]] w fun e w'=> ∃A' n' c',e=.returned (.tuple #[.slice A' n' c',.bool (sgB sz m x)])/\Below w.heap.size w w':=by
 obtain⟨W,hW⟩: ∃W,W=(w.alloc (Obj.cells #[.int .i64 sz,.slice A m c] 26)):=⟨_,rfl⟩;have HB:Hid (Below w.heap.size w W):=by rw[hW];exact(br_.alloc nr_ _)
 have a0:w.heap.size<W.heap.size:=by rw[hW];simp
 have e0:W.cell? ⟨w.heap.size,0,none⟩=some (.int .i64 sz):=by rw[hW];simp[go_sem]
 have e1:W.cell? ⟨w.heap.size,1,none⟩=some (.slice A m c):=by rw[hW];simp[go_sem]
 have HK:=hh_ (h.keep (HB.mono hB) nr_);have HW:=hh_ hW;clear hW h;go_enter Tryz.func167,Tryz.ntmps167;go_wp2_with fail
 rw[<-HW.out];refine(IsGraph_any sz A m c x W B HK (by omega) hm).mono ?_;rintro e w1 ⟨rfl,hb1⟩;have f0:=up hb1 e0 a0;have f1:=up hb1 e1 a0;have z1:=hb1.size;have HB1:Hid (Below w.heap.size w w1):=HB.trans (hb1.mono (by omega));have HK1:Hid (Rd w1 B A m c x):=HK.keep (hb1.mono (by omega)) nr_;clear hb1 e0 e1 HW HK HB;cases ho:okB sz m x
 ·have hno:Hid (sgB sz m x=false):=sgB_no ho;clear ho;go_wp2;go_ret2;exact⟨none,0,0,by rw[hno.out];rfl,HB1⟩
 ·have hok2:OkG sz m x:=by
   refine Classical.byContradiction fun h2=> ?_
   rw[okB_no h2] at ho;cases ho
  obtain⟨_,es,vg0,_⟩:=hok2;subst es;have hn1:=vg0.n1;have hn7:=vg0.n7;have h128:=two_pow_le hn7;have hpos:=Nat.two_pow_pos m;have Hok:=hh_ ho;clear ho vg0;obtain⟨W2,hW2⟩: ∃W2,W2=w1.alloc (Obj.cells #[] 3):=⟨_,rfl⟩;have hb2:Below w1.heap.size w1 W2:=by rw[hW2];exact br_.alloc nr_ _
  have z2:w1.heap.size<W2.heap.size:=by rw[hW2];simp
  have hg:W2.heap[w1.heap.size]? =some (.cells #[] 3 (0,0)):=by rw[hW2];exact heap_alloc_new w1 _
  have b1:w.heap.size<w1.heap.size:=by omega
  have HW2:=hh_ hW2;have HG:=hh_ hg;have HB2:=hh_ hb2;clear hW2 hg hb2;go_wp2_with fail
  rw[<-HW2.out];clear HW2;refine(all_any m A c W2 hn7).mono ?_;rintro e w2 ⟨rfl,hb3⟩;have z3:=hb3.size;have b2:w.heap.size<w2.heap.size:=by omega
  have HB3:Hid (Below w1.heap.size w1 w2):=HB2.trans (hb3.mono (by omega));have g0:=up HB3 f0 b1;have g1:=up HB3 f1 b1;have HO:Hid (∃z:Nat->Value,Own w2 w1.heap.size (w1.heap.size+1) 3 1 (some ⟨w1.heap.size,0,none⟩) 0 0 z):=
   ⟨fun _=> .int .i64 0,.inr ⟨w1.heap.size,#[],rfl,nr_,Nat.lt_succ_self _,(hb3.block _ z2).trans HG,nr_,by unfold maxLen;omega,rfl,fun j hj=>absurd hj (by omega)⟩⟩
  have HK2:Hid (Rd w2 B A m c x):=HK1.keep (HB3.mono (by omega)) nr_;have HB4:Hid (Below w.heap.size w w2):=HB1.trans (HB3.mono (by omega));clear hb3 f0 f1 HG HB2 HK1 HB1;go_wp2;go_loopw [4] (fun l wr=> ∃(left k g' c':Nat),l=.slice (some ⟨g',0,none⟩) k c'/\wr.cell? ⟨w2.heap.size,0,none⟩=some (.int .i64 left)/\wr.frozen? ⟨w2.heap.size,0,none⟩=false/\g'≠w2.heap.size/\g'<wr.heap.size/\w1.heap.size<=g'/\w2.heap.size<wr.heap.size/\k+left+1<=2^m/\Hid (∃z:Nat->Value,Own wr g' (g'+1) 3 1 (some ⟨g',0,none⟩) k c' z)/\Hid (sgE (rw_ x) (2^m-1)=sgE (rw_ x) left)/\Hid (Below w1.heap.size w2 wr)) (fun _ wr=>match wr.cell? ⟨w2.heap.size,0,none⟩ with|some v=>(intOf v).toNat|none=>0);case atStart=>exact⟨2^m-1,0,w1.heap.size,0,rfl,by simp[go_sem],by simp[go_sem],by omega,by simp;omega,nr_,by simp,by omega,(by obtain⟨z,hz⟩:=HO.out;exact⟨z,hz.alloc _⟩),rfl,br_.alloc (by omega) _⟩
  case round=>
   obtain⟨left,k,g',c',rfl,l0,l1,d1,d2,d3,d4,hkl,HZ,HE,hbr⟩:=hrel;have zr:=hbr.size;have j0:=up hbr.out g0 b1;have j1:=up hbr.out g1 b1;by_cases hl0:left=0
   ·subst hl0;have hyes:Hid (sgB (m:Int) m x=true):=sgB_eq Hok.out (HE.trans (sgE_zero _));go_wp2;go_ret2;exact⟨_,_,_,by rw[hyes.out];rfl,HB4.trans (hbr.mono (by omega))⟩
   ·have hne:((left:Int) !=0)=true:=by simp;omega
    have Hl0:=hh_ hl0;clear hl0;go_wp2_with fail
    refine(ListOf_i left (by omega) wr).mono ?_;rintro e w3 ⟨A3,c3,rfl,hO3,hb3⟩;have z4:=hb3.size;have i0:=up hb3 l0 d4;have i1:=upf hb3 l1 d4;have i2:=up hb3 j0 (by omega);have i3:=up hb3 j1 (by omega);have HL3:Hid (Rd w3 w3.heap.size A3 (listN left).length c3 (fun j=>(((listN left).getD j 0:Nat):Int))):=hO3.rd;have HK3:Hid (Rd w3 B A m c x):=(HK2.keep (hbr.mono (by omega)) nr_).keep (hb3.mono (by omega)) nr_;have HZ3:Hid (∃z:Nat->Value,Own w3 g' (g'+1) 3 1 (some ⟨g',0,none⟩) k c' z):=by obtain⟨z,hz⟩:=HZ.out;exact⟨z,hz.keepB hb3 (by omega)⟩
    have HB5:Hid (Below w1.heap.size w2 w3):=hbr.trans (hb3.mono (by omega));have hl7:=listN_len left;have HF:Hid (∀(j:Nat) (hj:j<(listN left).length) (w':World),Below w3.heap.size w3 w'->Calls Tryz.prog 249 #[.int .i64 ((listN left)[j]:Int),.pointer (some ⟨w.heap.size,0,none⟩),.pointer (some ⟨w2.heap.size,0,none⟩)] w' fun e w''=>e=.returned (.bool (simB (rw_ x) ((listN left).getD j 0) left))/\Below w'.heap.size w' w''):=by
     intro j hj w' hb;have hv:=listN_at hj;have hvm:=bit_lt (by omega:left<2^m) hv.2;have e1:(listN left).getD j 0=(listN left)[j]:=by simp[List.getD,hj]
     rw[e1];exact smo_i m A c x left _ _ _ w' B (HK3.keep (hb.mono (by omega)) nr_) (by have:=hb.size;omega) Hok.out (by omega) hvm (up hb i2 (by omega)) (up hb i3 (by omega)) (up hb i0 (by omega))
    have HM:=hh_ l0;clear hO3 hb3 hbr HZ l0 l1 j0 j1;go_wp2_with fail
    refine(IndexFunc_M A3 c3 (listN left) (fun j=>simB (rw_ x) ((listN left).getD j 0) left) w.heap.size w2.heap.size w3 w3.heap.size HL3.out nr_ hl7 HF).mono ?_;rintro e w4 ⟨rfl,hb4⟩;have z5:=hb4.size;have k0:=up hb4 i0 (by omega);have k1:=upf hb4 i1 (by omega);have HZ4:Hid (∃z:Nat->Value,Own w4 g' (g'+1) 3 1 (some ⟨g',0,none⟩) k c' z):=by obtain⟨z,hz⟩:=HZ3.out;exact⟨z,hz.keepB hb4 (by omega)⟩
    have HB6:Hid (Below w1.heap.size w2 w4):=HB5.trans (hb4.mono (by omega));clear hb4 i0 i1 i2 i3 HF HL3 HK3 HZ3 HB5;cases hf:sgF (rw_ x) left with
    |none=>
     have HI:Hid (fIdx (fun j=>simB (rw_ x) ((listN left).getD j 0) left) (listN left).length= -1):=fIdx_no fun j hj=>by
      have:=sgF_none' hf j hj;simpa [List.getD,hj] using this
     have hno:Hid (sgB (m:Int) m x=false):=sgB_eq Hok.out (HE.trans (sgE_none Hl0.out hf));rw[HI.out];clear hf HI;go_wp2;go_ret2;exact⟨none,0,0,by rw[hno.out];rfl,HB4.trans (HB6.mono (by omega))⟩
    |some v=>
     obtain⟨kk,hkk,hv,hy,hmin⟩:=sgF_place hf;have HI:Hid (fIdx (fun j=>simB (rw_ x) ((listN left).getD j 0) left) (listN left).length=kk):=fIdx_yes hkk (by simpa [List.getD,hkk,hv] using hy) (fun j hj=>by
      have:=hmin j hj;have hj2:j<(listN left).length:=by omega
      simpa [List.getD,hj2] using this)
     have hbit:=sgF_bit hf;have HE2:Hid (sgE (rw_ x) (2^m-1)=sgE (rw_ x) (left^^^2^v)):=HE.trans (sgE_some hf);have hlt:=xor_bit_lt hbit.2;have hxs:=xor_bit hbit.2;have Hv:=hh_ hv;have Hbit:=hh_ hbit.2;have hv7:=hbit.1;rw[HI.out];clear hf HI hy hmin hbit hv;have n1:(0:Int)<=kk:=by omega
     have n2:(kk:Int)<((listN left).length:Int):=by omega
     go_wp2_with fail
     refine(ListOf_i left (by omega) w4).mono ?_;rintro e w5 ⟨A5,c5,rfl,hO5,hb5⟩;have z6:=hb5.size;obtain⟨g5,rfl,_,hg5,_,hc5,_⟩:=hO5.at_ (by omega);have q0:w5.cell? ⟨g5,kk,none⟩=some (.int .i64 v):=(hc5 kk (by omega)).trans (by rw[ni_at hkk,Hv.out]);have m0:=up hb5 k0 (by omega);have m1:=upf hb5 k1 (by omega);have HZ5:Hid (∃z:Nat->Value,Own w5 g' (g'+1) 3 1 (some ⟨g',0,none⟩) k c' z):=by obtain⟨z,hz⟩:=HZ4.out;exact⟨z,hz.keepB hb5 (by omega)⟩
     have HB7:Hid (Below w1.heap.size w2 w5):=HB6.trans (hb5.mono (by omega));have E:=i64_andNot_nat left (2^v) (by omega) (by have:=two_pow_le (n:=v) (by omega);omega);have p1:=pow_shl v (by omega);have p2:((2^v:Nat):Int)=2^v:=by simp
     rw[p2,hxs.1] at E;clear hb5 hO5 hc5 HB6 k0 k1 HZ4 p2;go_wp2;obtain⟨z,hz⟩:=HZ5.out;have HP:Hid (Own ((w5.alloc (Obj.cells #[.int .i64 (v:Int)] 3)).drew) g' (g'+1) 3 1 (some ⟨g',0,none⟩) k c' (fun j=>if j<k then z j else .int .i64 (v:Int))):=(hz.alloc _).congr (fun j hj=>by rw[if_pos (by omega)]);have HXn:Hid (∀i,i<1->(#[.int .i64 (v:Int)]:Array Value)[i]? =some ((fun j=>if j<k then z j else Value.int .i64 (v:Int)) (k*1+i))):=by
      intro i hi;obtain rfl:i=0:=by omega
      simp
     have M0:Hid (((w5.alloc (Obj.cells #[.int .i64 (v:Int)] 3)).drew).cell? ⟨w2.heap.size,0,none⟩=some (.int .i64 left)):=(World.cell?_alloc_lt w5 _ ⟨w2.heap.size,0,none⟩ (by show w2.heap.size<_;omega)).trans m0;have M3:Hid (((w5.alloc (Obj.cells #[.int .i64 (v:Int)] 3)).drew).frozen? ⟨w2.heap.size,0,none⟩=false):=(World.frozen?_of_block (Below.heap_alloc w5 _ w2.heap.size (by omega))).trans m1;have M1:Hid (w2.heap.size<((w5.alloc (Obj.cells #[.int .i64 (v:Int)] 3)).drew).heap.size):=by show w2.heap.size<(w5.alloc _).heap.size;simp;omega
     have M2:Hid (w2.heap.size<g'\/g'+1<=w2.heap.size):=by show _\/_;omega
     have n5:w2.heap.size<w5.heap.size:=by omega
     go_region_law
      ((refine step_push _ (by rfl) _ _ _ (by rfl) 3 _ 1 8 Tryz.underlying24 info_int rfl (by omega) g' (g'+1) (some ⟨g',0,none⟩) k c' (fun j=>if j<k then z j else .int .i64 (v:Int)) (by rfl) HP.out (by simp;omega) w5.heap.size #[.int .i64 (v:Int)] 3 (0,0) 1 (heap_alloc_new w5 _) (by rfl) rfl HXn.out (by simp[Value.oneCell']) (by omega) (by omega) ?_;intro g6 cap w6 hp;have m2:=frZ hp.caged.2.2.2 M3.out M1.out M2.out;have m3:=frC hp.caged.2.2.2 M0.out M1.out M2.out))
     all_goals
      obtain⟨hq1,hq2,hq3,hq4⟩:=hp.caged;have hq5:Fr g' (g'+1) w5 w6:=(((Fr.refl _ _ w5).alloc _).drew).trans hq4;have hq6:g6≠w2.heap.size/\w1.heap.size<=g6:=by
       rcases hq2 with h|h
       ·exact⟨by omega,by omega⟩
       ·have h2:g6=w5.heap.size+1:=by rw[h];show (w5.alloc _).heap.size=_;simp
        exact⟨by omega,by omega⟩
      have zz:=hq5.size;have HF6:Hid (Fr w2.heap.size (w2.heap.size+1) w6 (w6.setCell ⟨w2.heap.size,0,none⟩ (.int .i64 ((left^^^2^v:Nat):Int)))):=(Fr.refl _ _ w6).setCell (p:=⟨w2.heap.size,0,none⟩) nr_ (Nat.lt_succ_self _) _;have HO6:Hid (∃z:Nat->Value,Own (w6.setCell ⟨w2.heap.size,0,none⟩ (.int .i64 ((left^^^2^v:Nat):Int))) g6 (g6+1) 3 1 (some ⟨g6,0,none⟩) (k+1) cap z):=⟨_,hq1.keep HF6.out (by omega)⟩;have HB8:Hid (Below w1.heap.size w2 (w6.setCell ⟨w2.heap.size,0,none⟩ (.int .i64 ((left^^^2^v:Nat):Int)))):=(HB7.trans (hq5.below d3 (by omega))).setCell (p:=⟨w2.heap.size,0,none⟩) (by show w1.heap.size<=w2.heap.size;omega) _;have y1:g6<(w6.setCell ⟨w2.heap.size,0,none⟩ (.int .i64 ((left^^^2^v:Nat):Int))).heap.size:=Nat.lt_of_lt_of_le hq3 HF6.size;have y2:w2.heap.size<(w6.setCell ⟨w2.heap.size,0,none⟩ (.int .i64 ((left^^^2^v:Nat):Int))).heap.size:=Nat.lt_of_lt_of_le (by omega) HF6.size
      obtain⟨y3,y4⟩:=hq6;clear hp hq1 hq2 hq4 hq5 HP HXn M0 M1 M2 M3 hz q0 E m0 m1;go_wp2;go_roundw;case rel=>exact⟨left^^^2^v,k+1,g6,cap,rfl,by simp[go_sem,m3],by simp[go_sem,m2],y3,y1,y4,y2,by omega,HO6,HE2,HB8⟩
      case measure=>rw[HM.out];simp[go_sem,m3,intOf];omega
theorem IsStronglyChordal_i (sz:Int) (A:Option Addr) (m c:Nat) (x:Nat->Int) (w:World) (B:Nat) (h:Rd w B A m c x) (hB:B<=w.heap.size) (hm:m<=1048576):
 Calls Tryz.prog 105 #[.agg #[.int .i64 sz,.slice A m c]] w fun e w'=>e=.returned (.bool (sgB sz m x))/\Below w.heap.size w w':=by
 obtain⟨W,hW⟩: ∃W,W=(w.alloc (Obj.cells #[.int .i64 sz,.slice A m c] 26)):=⟨_,rfl⟩;have HB:Hid (Below w.heap.size w W):=by rw[hW];exact(br_.alloc nr_ _)
 have a0:w.heap.size<W.heap.size:=by rw[hW];simp
 have HK:=hh_ (h.keep (HB.mono hB) nr_);have HW:=hh_ hW;clear hW h;go_enter Tryz.func105,Tryz.ntmps105;go_wp2_with fail
 rw[<-HW.out];clear HW;refine(SimpleOrder_i sz A m c x W B HK (by omega) hm).mono ?_;rintro e w1 ⟨A',n',c',rfl,hb1⟩;have HB1:Hid (Below w.heap.size w w1):=HB.trans (hb1.mono (by omega));clear hb1 HK HB;go_wp2;go_ret;exact⟨rfl,HB1⟩
noncomputable def orG (F:(Nat->Nat)->Nat->Option Nat) (sz:Int) (m:Nat) (x:Nat->Int):Option (List Nat):=if okB sz m x=true then redL (F (rw_ x)) (2^m-1) else none
theorem orG_no {F:(Nat->Nat)->Nat->Option Nat} {sz:Int} {m:Nat} {x:Nat->Int} (h:okB sz m x=false):orG F sz m x=none:=by unfold orG;rw[h];rfl
theorem orG_eq {F:(Nat->Nat)->Nat->Option Nat} {sz:Int} {m:Nat} {x:Nat->Int} {o:Option (List Nat)} (h:okB sz m x=true) (h2:redL (F (rw_ x)) (2^m-1)=o):orG F sz m x=o:=by unfold orG;rw[if_pos h,h2]
theorem ni_snocL {T:List Nat} {k j v:Nat} (h:k=T.length) (hj:j<k+1):(if j<k then ni T j else Value.int .i64 (v:Int))=ni (T++ [v]) j:=by
 subst h;unfold ni;by_cases e:j<T.length
 ·rw[if_pos e];simp[List.getD,List.getElem?_append_left e]
 ·obtain rfl:j=T.length:=by omega
  rw[if_neg e];simp[List.getD]
set_option maxHeartbeats 1600000
set_option maxRecDepth 100000 in
theorem EliminationOf_il (sz:Int) (A:Option Addr) (m c:Nat) (x:Nat->Int) (w:World) (B:Nat) (h:Rd w B A m c x) (hB:B<=w.heap.size) (hm:m<=1048576):
 Calls Tryz.prog 161 #[.agg #[.int .i64 sz,.slice A m c]] w (lsQ w (orG firstS sz m x)):=by
 obtain⟨W,hW⟩: ∃W,W=(w.alloc (Obj.cells #[.int .i64 sz,.slice A m c] 26)):=⟨_,rfl⟩;have HB:Hid (Below w.heap.size w W):=by rw[hW];exact(br_.alloc nr_ _)
 have a0:w.heap.size<W.heap.size:=by rw[hW];simp
 have e0:W.cell? ⟨w.heap.size,0,none⟩=some (.int .i64 sz):=by rw[hW];simp[go_sem]
 have e1:W.cell? ⟨w.heap.size,1,none⟩=some (.slice A m c):=by rw[hW];simp[go_sem]
 have HK:=hh_ (h.keep (HB.mono hB) nr_);have HW:=hh_ hW;clear hW h;go_enter Tryz.func161,Tryz.ntmps161;go_wp2_with fail
 rw[<-HW.out];refine(IsGraph_any sz A m c x W B HK (by omega) hm).mono ?_;rintro e w1 ⟨rfl,hb1⟩;have f0:=up hb1 e0 a0;have f1:=up hb1 e1 a0;have z1:=hb1.size;have HB1:Hid (Below w.heap.size w w1):=HB.trans (hb1.mono (by omega));have HK1:Hid (Rd w1 B A m c x):=HK.keep (hb1.mono (by omega)) nr_;clear hb1 e0 e1 HW HK HB;cases ho:okB sz m x
 ·have hno:Hid (orG firstS sz m x=none):=orG_no ho;clear ho;go_wp2;go_ret2;rw[hno.out];exact lsQ.no HB1.out
 ·have hok2:OkG sz m x:=by
   refine Classical.byContradiction fun h2=> ?_
   rw[okB_no h2] at ho;cases ho
  obtain⟨_,es,vg0,_⟩:=hok2;subst es;have hn1:=vg0.n1;have hn7:=vg0.n7;have h128:=two_pow_le hn7;have hpos:=Nat.two_pow_pos m;have Hok:=hh_ ho;clear ho vg0;obtain⟨W2,hW2⟩: ∃W2,W2=w1.alloc (Obj.cells #[] 3):=⟨_,rfl⟩;have hb2:Below w1.heap.size w1 W2:=by rw[hW2];exact br_.alloc nr_ _
  have z2:w1.heap.size<W2.heap.size:=by rw[hW2];simp
  have hg:W2.heap[w1.heap.size]? =some (.cells #[] 3 (0,0)):=by rw[hW2];exact heap_alloc_new w1 _
  have b1:w.heap.size<w1.heap.size:=by omega
  have HW2:=hh_ hW2;have HG:=hh_ hg;have HB2:=hh_ hb2;clear hW2 hg hb2;go_wp2_with fail
  rw[<-HW2.out];clear HW2;refine(all_any m A c W2 hn7).mono ?_;rintro e w2 ⟨rfl,hb3⟩;have z3:=hb3.size;have b2:w.heap.size<w2.heap.size:=by omega
  have HB3:Hid (Below w1.heap.size w1 w2):=HB2.trans (hb3.mono (by omega));have g0:=up HB3 f0 b1;have g1:=up HB3 f1 b1;have HO:Hid (Own w2 w1.heap.size (w1.heap.size+1) 3 1 (some ⟨w1.heap.size,0,none⟩) 0 0 (ni [])):=
   .inr ⟨w1.heap.size,#[],rfl,nr_,Nat.lt_succ_self _,(hb3.block _ z2).trans HG,nr_,by unfold maxLen;omega,rfl,fun j hj=>absurd hj (by omega)⟩
  have HK2:Hid (Rd w2 B A m c x):=HK1.keep (HB3.mono (by omega)) nr_;have HB4:Hid (Below w.heap.size w w2):=HB1.trans (HB3.mono (by omega));clear hb3 f0 f1 HG HB2 HK1 HB1;go_wp2;go_loopw [4] (fun l wr=> ∃(left:Nat) (T:List Nat) (g' c':Nat),l=.slice (some ⟨g',0,none⟩) T.length c'/\wr.cell? ⟨w2.heap.size,0,none⟩=some (.int .i64 left)/\wr.frozen? ⟨w2.heap.size,0,none⟩=false/\g'≠w2.heap.size/\g'<wr.heap.size/\w1.heap.size<=g'/\w2.heap.size<wr.heap.size/\T.length+left+1<=2^m/\Hid (Own wr g' (g'+1) 3 1 (some ⟨g',0,none⟩) T.length c' (ni T))/\Hid (redL (firstS (rw_ x)) (2^m-1)=(redL (firstS (rw_ x)) left).map (T++ ·))/\Hid (Below w1.heap.size w2 wr)) (fun _ wr=>match wr.cell? ⟨w2.heap.size,0,none⟩ with|some v=>(intOf v).toNat|none=>0);case atStart=>exact⟨2^m-1,[],w1.heap.size,0,rfl,by simp[go_sem],by simp[go_sem],by omega,by simp;omega,nr_,by simp,by simp;omega,HO.alloc _,redL_start,br_.alloc (by omega) _⟩
  case round=>
   obtain⟨left,T,g',c',rfl,l0,l1,d1,d2,d3,d4,hkl,HZ,HE,hbr⟩:=hrel;obtain⟨k,hkT⟩: ∃k,k=T.length:=⟨_,rfl⟩;rw[<-hkT] at hkl HZ ⊢;have HkT:=hh_ hkT;clear hkT;have zr:=hbr.size;have j0:=up hbr.out g0 b1;have j1:=up hbr.out g1 b1;by_cases hl0:left=0
   ·subst hl0;have hyes:Hid (orG firstS (m:Int) m x=some T):=orG_eq Hok.out (redL_end HE.out);have HON:Hid (ON w.heap.size wr (some ⟨g',0,none⟩) c' T):=⟨by rw[<-HkT.out];exact HZ.mono (by omega) (by omega)⟩;go_wp2;go_ret2;rw[hyes.out,HkT.out];exact lsQ.yes HON.out (HB4.trans (hbr.mono (by omega)))
   ·have hne:((left:Int) !=0)=true:=by simp;omega
    have Hl0:=hh_ hl0;clear hl0;go_wp2_with fail
    refine(ListOf_i left (by omega) wr).mono ?_;rintro e w3 ⟨A3,c3,rfl,hO3,hb3⟩;have z4:=hb3.size;have i0:=up hb3 l0 d4;have i1:=upf hb3 l1 d4;have i2:=up hb3 j0 (by omega);have i3:=up hb3 j1 (by omega);have HL3:Hid (Rd w3 w3.heap.size A3 (listN left).length c3 (fun j=>(((listN left).getD j 0:Nat):Int))):=hO3.rd;have HK3:Hid (Rd w3 B A m c x):=(HK2.keep (hbr.mono (by omega)) nr_).keep (hb3.mono (by omega)) nr_;have HZ3:Hid (Own w3 g' (g'+1) 3 1 (some ⟨g',0,none⟩) k c' (ni T)):=HZ.keepB hb3 (by omega);have HB5:Hid (Below w1.heap.size w2 w3):=hbr.trans (hb3.mono (by omega));have hl7:=listN_len left;have HF:Hid (∀(j:Nat) (hj:j<(listN left).length) (w':World),Below w3.heap.size w3 w'->Calls Tryz.prog 236 #[.int .i64 ((listN left)[j]:Int),.pointer (some ⟨w.heap.size,0,none⟩),.pointer (some ⟨w2.heap.size,0,none⟩)] w' fun e w''=>e=.returned (.bool (cliq (rw_ x) (rw_ x ((listN left).getD j 0)&&&left)))/\Below w'.heap.size w' w''):=by
     intro j hj w' hb;have hv:=listN_at hj;have hvm:=bit_lt (by omega:left<2^m) hv.2;have e1:(listN left).getD j 0=(listN left)[j]:=by simp[List.getD,hj]
     rw[e1];exact simp_i m A c x left _ _ _ w' B (HK3.keep (hb.mono (by omega)) nr_) (by have:=hb.size;omega) Hok.out (by omega) hvm (up hb i2 (by omega)) (up hb i3 (by omega)) (up hb i0 (by omega))
    have HM:=hh_ l0;clear hO3 hb3 hbr HZ l0 l1 j0 j1;go_wp2_with fail
    refine(IndexFunc_E A3 c3 (listN left) (fun j=>cliq (rw_ x) (rw_ x ((listN left).getD j 0)&&&left)) w.heap.size w2.heap.size w3 w3.heap.size HL3.out nr_ hl7 HF).mono ?_;rintro e w4 ⟨rfl,hb4⟩;have z5:=hb4.size;have k0:=up hb4 i0 (by omega);have k1:=upf hb4 i1 (by omega);have HZ4:Hid (Own w4 g' (g'+1) 3 1 (some ⟨g',0,none⟩) k c' (ni T)):=HZ3.keepB hb4 (by omega);have HB6:Hid (Below w1.heap.size w2 w4):=HB5.trans (hb4.mono (by omega));clear hb4 i0 i1 i2 i3 HF HL3 HK3 HZ3 HB5;cases hf:firstS (rw_ x) left with
    |none=>
     have HI:Hid (fIdx (fun j=>cliq (rw_ x) (rw_ x ((listN left).getD j 0)&&&left)) (listN left).length= -1):=fIdx_no fun j hj=>by
      have:=firstS_none' hf j hj;simpa [List.getD,hj] using this
     have hno:Hid (orG firstS (m:Int) m x=none):=orG_eq Hok.out (redL_stuck Hl0.out hf HE.out);rw[HI.out];clear hf HI;go_wp2;go_ret2;rw[hno.out];exact lsQ.no (HB4.trans (HB6.mono (by omega)))
    |some v=>
     obtain⟨kk,hkk,hv,hy,hmin⟩:=firstS_place hf;have HI:Hid (fIdx (fun j=>cliq (rw_ x) (rw_ x ((listN left).getD j 0)&&&left)) (listN left).length=kk):=fIdx_yes hkk (by simpa [List.getD,hkk,hv] using hy) (fun j hj=>by
      have:=hmin j hj;have hj2:j<(listN left).length:=by omega
      simpa [List.getD,hj2] using this)
     have hbit:=firstS_bit hf;have HE2:Hid (redL (firstS (rw_ x)) (2^m-1)=(redL (firstS (rw_ x)) (left^^^2^v)).map ((T++ [v])++ ·)):=redL_step hbit.2 hf HE.out;have hlt:=xor_bit_lt hbit.2;have hxs:=xor_bit hbit.2;have Hv:=hh_ hv;have Hbit:=hh_ hbit.2;have hv7:=hbit.1;rw[HI.out];clear hf HI hy hmin hbit hv;have n1:(0:Int)<=kk:=by omega
     have n2:(kk:Int)<((listN left).length:Int):=by omega
     go_wp2_with fail
     refine(ListOf_i left (by omega) w4).mono ?_;rintro e w5 ⟨A5,c5,rfl,hO5,hb5⟩;have z6:=hb5.size;obtain⟨g5,rfl,_,hg5,_,hc5,_⟩:=hO5.at_ (by omega);have q0:w5.cell? ⟨g5,kk,none⟩=some (.int .i64 v):=(hc5 kk (by omega)).trans (by rw[ni_at hkk,Hv.out]);have m0:=up hb5 k0 (by omega);have m1:=upf hb5 k1 (by omega);have HZ5:Hid (Own w5 g' (g'+1) 3 1 (some ⟨g',0,none⟩) k c' (ni T)):=HZ4.keepB hb5 (by omega);have HB7:Hid (Below w1.heap.size w2 w5):=HB6.trans (hb5.mono (by omega));have E:=i64_andNot_nat left (2^v) (by omega) (by have:=two_pow_le (n:=v) (by omega);omega);have p1:=pow_shl v (by omega);have p2:((2^v:Nat):Int)=2^v:=by simp
     rw[p2,hxs.1] at E;clear hb5 hO5 hc5 HB6 k0 k1 HZ4 p2;go_wp2;have hz:=HZ5.out;have HP:Hid (Own ((w5.alloc (Obj.cells #[.int .i64 (v:Int)] 3)).drew) g' (g'+1) 3 1 (some ⟨g',0,none⟩) k c' (fun j=>if j<k then ni T j else .int .i64 (v:Int))):=(hz.alloc _).congr (fun j hj=>by rw[if_pos (by omega)]);have HXn:Hid (∀i,i<1->(#[.int .i64 (v:Int)]:Array Value)[i]? =some ((fun j=>if j<k then ni T j else Value.int .i64 (v:Int)) (k*1+i))):=by
      intro i hi;obtain rfl:i=0:=by omega
      simp
     have M0:Hid (((w5.alloc (Obj.cells #[.int .i64 (v:Int)] 3)).drew).cell? ⟨w2.heap.size,0,none⟩=some (.int .i64 left)):=(World.cell?_alloc_lt w5 _ ⟨w2.heap.size,0,none⟩ (by show w2.heap.size<_;omega)).trans m0;have M3:Hid (((w5.alloc (Obj.cells #[.int .i64 (v:Int)] 3)).drew).frozen? ⟨w2.heap.size,0,none⟩=false):=(World.frozen?_of_block (Below.heap_alloc w5 _ w2.heap.size (by omega))).trans m1;have M1:Hid (w2.heap.size<((w5.alloc (Obj.cells #[.int .i64 (v:Int)] 3)).drew).heap.size):=by show w2.heap.size<(w5.alloc _).heap.size;simp;omega
     have M2:Hid (w2.heap.size<g'\/g'+1<=w2.heap.size):=by show _\/_;omega
     have n5:w2.heap.size<w5.heap.size:=by omega
     go_region_law
      ((refine step_push _ (by rfl) _ _ _ (by rfl) 3 _ 1 8 Tryz.underlying24 info_int rfl (by omega) g' (g'+1) (some ⟨g',0,none⟩) k c' (fun j=>if j<k then ni T j else .int .i64 (v:Int)) (by rfl) HP.out (by simp;omega) w5.heap.size #[.int .i64 (v:Int)] 3 (0,0) 1 (heap_alloc_new w5 _) (by rfl) rfl HXn.out (by simp[Value.oneCell']) (by omega) (by omega) ?_;intro g6 cap w6 hp;have m2:=frZ hp.caged.2.2.2 M3.out M1.out M2.out;have m3:=frC hp.caged.2.2.2 M0.out M1.out M2.out))
     all_goals
      obtain⟨hq1,hq2,hq3,hq4⟩:=hp.caged;have hq5:Fr g' (g'+1) w5 w6:=(((Fr.refl _ _ w5).alloc _).drew).trans hq4;have hq6:g6≠w2.heap.size/\w1.heap.size<=g6:=by
       rcases hq2 with h|h
       ·exact⟨by omega,by omega⟩
       ·have h2:g6=w5.heap.size+1:=by rw[h];show (w5.alloc _).heap.size=_;simp
        exact⟨by omega,by omega⟩
      have zz:=hq5.size;have HF6:Hid (Fr w2.heap.size (w2.heap.size+1) w6 (w6.setCell ⟨w2.heap.size,0,none⟩ (.int .i64 ((left^^^2^v:Nat):Int)))):=(Fr.refl _ _ w6).setCell (p:=⟨w2.heap.size,0,none⟩) nr_ (Nat.lt_succ_self _) _;have He9:Hid ((T++ [v]).length=k+1):=by show _=_;rw[HkT.out];simp
      have HO6:Hid (Own (w6.setCell ⟨w2.heap.size,0,none⟩ (.int .i64 ((left^^^2^v:Nat):Int))) g6 (g6+1) 3 1 (some ⟨g6,0,none⟩) (T++ [v]).length cap (ni (T++ [v]))):=by
       rw[He9.out];exact(hq1.keep HF6.out (by omega)).congr (fun j hj=>ni_snocL HkT.out (by omega))
      have HB8:Hid (Below w1.heap.size w2 (w6.setCell ⟨w2.heap.size,0,none⟩ (.int .i64 ((left^^^2^v:Nat):Int)))):=(HB7.trans (hq5.below d3 (by omega))).setCell (p:=⟨w2.heap.size,0,none⟩) (by show w1.heap.size<=w2.heap.size;omega) _;have y1:g6<(w6.setCell ⟨w2.heap.size,0,none⟩ (.int .i64 ((left^^^2^v:Nat):Int))).heap.size:=Nat.lt_of_lt_of_le hq3 HF6.size;have y2:w2.heap.size<(w6.setCell ⟨w2.heap.size,0,none⟩ (.int .i64 ((left^^^2^v:Nat):Int))).heap.size:=Nat.lt_of_lt_of_le (by omega) HF6.size;obtain⟨y3,y4⟩:=hq6;clear hp hq1 hq2 hq4 hq5 HP HXn M0 M1 M2 M3 hz q0 E m0 m1;go_wp2;go_roundw;case rel=>exact⟨left^^^2^v,T++ [v],g6,cap,by rw[He9.out],by simp[go_sem,m3],by simp[go_sem,m2],y3,y1,y4,y2,by rw[He9.out];omega,HO6,HE2,HB8⟩
      case measure=>rw[HM.out];simp[go_sem,m3,intOf];omega
end Go.Proofs.YtfabbohijhjpcaaGreatDoor
