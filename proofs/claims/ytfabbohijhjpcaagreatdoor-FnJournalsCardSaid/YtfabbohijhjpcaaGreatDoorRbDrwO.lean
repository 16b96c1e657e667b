/- Lemmas. -/
import Derived.Test.YtfabbohijhjpcaaGreatDoorRbDrwN
namespace Go.Proofs.YtfabbohijhjpcaaGreatDoor
open Go.RowKit
set_option maxHeartbeats 6400000
theorem DS.dg {w wr:World} {q nb cb Q lo n:Nat} {A:Option Addr} (h:DS w wr q A nb cb Q lo n) (hn:n<=7): ∃(B:Option Addr) (d:Nat),wr.cell? ⟨Q,0,none⟩=some (.int .i64 n)/\wr.cell? ⟨Q,1,none⟩=some (.slice B n d)/\
 dgR w q A nb cb (.returned (.agg #[.int .i64 n,.slice B n d])) ((wr.setCell ⟨w.heap.size,0,none⟩ (.int .i64 n)).setCell ⟨w.heap.size,1,none⟩ (.slice B n d)):=by
 obtain⟨B,d,x,hg,ho,_⟩:=h.gu.ex;exact⟨B,d,hg.c0,hg.c1,dgR.fin0 hn h.cu h.fr h.l1 ho h.l2⟩
section
variable {w:World} {q nb cb:Nat} {A:Option Addr}
set_option maxRecDepth 100000 in
theorem l11Graph_s (hc:Cu w q A nb cb):Calls Tryz.prog 230 #[.pointer (some ⟨q,0,none⟩)] w (dgR w q A nb cb):=by
 obtain⟨W,hW⟩: ∃W,W=(w.alloc (Obj.cells #[.int .i64 0,.slice none 0 0] 26)):=⟨_,rfl⟩;have HD:Hid (D0 w W q A nb cb):=by rw[hW];exact D0.new hc
 have HW:=hh_ hW;have KB:=hh_ (l1Once_s (k:=2) HD.cu (by omega) (by omega));clear hW hc;go_enter Tryz.func230,Tryz.ntmps230;go_wp2_with fail
 rw[<-HW.out];clear HW;refine KB.mono ?_;rintro e w1 ⟨y,rfl,hd⟩;replace HD:=hh_ (HD.draw hd);clear hd KB;have hq2:=HD.lt;cases y
 rotate_left
 ·have KR:=hh_ (l10Graph_s HD.cu);go_wp2_with fail
  refine KR.mono ?_;rintro e w3 ⟨sz,B,m,d,x,rfl,hm7,ho,hd⟩;have HD3:=hh_ (HD.draw hd);have HF:=hh_ (dgR.fin0 (sz:=sz) hm7 HD3.cu HD3.fr HD3.l1 ho hq2);have d0:=HD3.d.c0;have d1:=HD3.d.c1;have d2:=HD3.d.f0;have d3:=HD3.d.f1;clear ho hd KR HD;go_wp2;exact bodyPost_ret (v:=.agg #[.int .i64 sz,.slice B m d]) (by simp[results,Tryz.results230,go_sem, *]) rfl HF.out
 ·obtain⟨W2,hmk,hO2,hb2⟩:=made_own w1 7 (by omega);have hmk7:(Instr.makeSlice 24 (.int .i64 7) (.int .i64 7)).run Tryz.prog w1=.ok (.slice (some ⟨w1.heap.size,0,none⟩) 7 7) W2:=hmk;have hs2:w1.heap.size<W2.heap.size:=by
   obtain⟨g',e,_,_,hlt,_⟩:=hO2.at_ (by omega);simp only[Option.some.injEq,Addr.mk.injEq,and_true] at e;omega
  obtain⟨W3,hW3⟩: ∃W3,W3=W2.alloc (Obj.cells #[.int .i64 7,.slice (some ⟨w1.heap.size,0,none⟩) 7 7] 26):=⟨_,rfl⟩;have hb3:Below w1.heap.size w1 W3:=by rw[hW3];exact hb2.alloc hb2.size _
  have HS3:Hid (DS w W3 q A nb cb W2.heap.size w1.heap.size 7):=by
   refine⟨HD.cu.keep hb3,HD.fr.trans (Fr.of_below hb3),?_,HD.d.keep hb3,HD.l1,hq2,Nat.le_of_lt hs2⟩;rw[hW3];refine⟨some ⟨w1.heap.size,0,none⟩,7,fun _=>0,GC.new _ _ _ _ _,(hO2.alloc _).mono nr_ (by simp;omega),fun e=> ?_⟩;simp only[Option.some.injEq,Addr.mk.injEq,and_true] at e;omega
  obtain⟨W4,hW4⟩: ∃W4,W4=(((((((W3.alloc (Obj.cells #[.int .i64 0,.int .i64 1] 3)).alloc (Obj.cells #[.int .i64 0,.int .i64 2] 3)).alloc (Obj.cells #[.int .i64 0,.int .i64 3] 3)).alloc (Obj.cells #[.int .i64 1,.int .i64 4] 3)).alloc (Obj.cells #[.int .i64 2,.int .i64 5] 3)).alloc (Obj.cells #[.int .i64 3,.int .i64 6] 3)).alloc (Obj.cells #[.slice (some ⟨W2.heap.size+1,0,none⟩) 2 2,.slice (some ⟨W2.heap.size+1+1,0,none⟩) 2 2,.slice (some ⟨W2.heap.size+1+1+1,0,none⟩) 2 2,.slice (some ⟨W2.heap.size+1+1+1+1,0,none⟩) 2 2,.slice (some ⟨W2.heap.size+1+1+1+1+1,0,none⟩) 2 2,.slice (some ⟨W2.heap.size+1+1+1+1+1+1,0,none⟩) 2 2] 24)):=⟨_,rfl⟩;have hz3:W3.heap.size=W2.heap.size+1:=by rw[hW3];simp
  have HS:Hid (DS w W4 q A nb cb W2.heap.size w1.heap.size 7):=by
   rw[hW4];exact HS3.keep (((((((br_.alloc nr_ _).alloc (by simp) _).alloc (by simp;omega) _).alloc (by simp;omega) _).alloc (by simp;omega) _).alloc (by simp;omega) _).alloc (by simp;omega) _)
  have HE:Hid (∀k,k<6-> ∃(g:Nat) (a b:Int),W2.heap.size+1<=g/\W4.cell? ⟨W2.heap.size+1+1+1+1+1+1+1,k,none⟩=some (.slice (some ⟨g,0,none⟩) 2 2)/\W4.cell? ⟨g,0,none⟩=some (.int .i64 a)/\W4.cell? ⟨g,1,none⟩=some (.int .i64 b)):=by
   intro k hk;rw[hW4];have hk6:k=0\/k=1\/k=2\/k=3\/k=4\/k=5:=by omega
   rcases hk6 with rfl|rfl|rfl|rfl|rfl|rfl
   ·exact⟨W2.heap.size+1,0,1,by omega,by simp[go_sem,hz3],by simp[go_sem,hz3],by simp[go_sem,hz3]⟩
   ·exact⟨W2.heap.size+1+1,0,2,by omega,by simp[go_sem,hz3],by simp[go_sem,hz3],by simp[go_sem,hz3]⟩
   ·exact⟨W2.heap.size+1+1+1,0,3,by omega,by simp[go_sem,hz3],by simp[go_sem,hz3],by simp[go_sem,hz3]⟩
   ·exact⟨W2.heap.size+1+1+1+1,1,4,by omega,by simp[go_sem,hz3],by simp[go_sem,hz3],by simp[go_sem,hz3]⟩
   ·exact⟨W2.heap.size+1+1+1+1+1,2,5,by omega,by simp[go_sem,hz3],by simp[go_sem,hz3],by simp[go_sem,hz3]⟩
   ·exact⟨W2.heap.size+1+1+1+1+1+1,3,6,by omega,by simp[go_sem,hz3],by simp[go_sem,hz3],by simp[go_sem,hz3]⟩
  rw[hW3] at hW4;have HW4:=hh_ hW4;have hlW4:W2.heap.size+1<=W4.heap.size:=by
   obtain⟨_,_,_,hg,_,_⟩:=HS.gu.ex;have:=hg.lt;omega
  clear hW4 hW3 HS3 hb3 hO2 hb2 hmk hz3;go_wp2_with fail
  rw[<-HW4.out];clear HW4;go_loopw [5] (fun i wr=> ∃k:Nat,k<=6/\i=.int .i64 k/\Hid (DS w wr q A nb cb W2.heap.size w1.heap.size 7)/\Hid (Fr W2.heap.size (W2.heap.size+1) W4 wr)) (fun i _=>6-(intOf i).toNat);case atStart=>exact⟨0,Nat.zero_le _,rfl,HS,Fr.refl _ _ _⟩
  case round=>
   clear HS;obtain⟨k,hk,rfl,HS,HFr⟩:=hrel;by_cases hk6:k<6
   ·have i1:(k:Int)<6:=by omega
    obtain⟨g,a,b,hg,y0,y1,y2⟩:=HE.out k hk6;have p0:=frC_ HFr.out y0 (World.block_lt_of_cell? _ _ y0) (.inr (by omega));have p1:=frC_ HFr.out y1 (World.block_lt_of_cell? _ _ y1) (.inr (by omega));have p2:=frC_ HFr.out y2 (World.block_lt_of_cell? _ _ y2) (.inr (by omega));obtain⟨A1,c1,x1,hg1,ho1,hne⟩:=HS.gu.ex;have e0:wr.cell? ⟨W2.heap.size,0,none⟩=some (.int .i64 7):=hg1.c0;have e1:=hg1.c1;have hQ:W2.heap.size<wr.heap.size:=hg1.lt;have KA:Hid (Calls Tryz.prog 91 #[.agg #[.int .i64 7,.slice A1 7 c1],.int .i64 a,.int .i64 b] wr.drew fun e w'=> ∃(A2:Option Addr) (c2:Nat) (t2:Bool) (y2:Nat->Int),e=.returned (.tuple #[.agg #[.int .i64 7,.slice A2 7 c2],.bool t2])/\Own w' (wr.heap.size+2) w'.heap.size 3 1 A2 7 c2 (fun j=> .int .i64 (y2 j))/\Below wr.heap.size wr.drew w'):=by
     refine(AddEdge_s (7:Int) A1 7 c1 x1 a b wr.drew wr.heap.size ho1.drew.rd nr_ (by omega)).mono ?_;rintro e w' ⟨A2,c2,h3,h4,h5⟩;exact⟨A2,c2,_,_,h3,h4,h5⟩
    have HU:Hid (GC wr W2.heap.size 7 A1 7 c1):=hg1;have hgl:=World.block_lt_of_cell? _ _ p0;have hdl:=World.block_lt_of_cell? _ _ p1;have ns1:W2.heap.size+1+1+1+1+1+1+1<W2.heap.size\/W2.heap.size+1<=W2.heap.size+1+1+1+1+1+1+1:=.inr (by omega);have ns2:g<W2.heap.size\/W2.heap.size+1<=g:=.inr (by omega);clear y0 y1 y2 hg1 ho1 hne;go_wp2;refine wp_region_held_drew (S:=fun z=>z.cell? ⟨W2.heap.size+1+1+1+1+1+1+1,k,none⟩=some (.slice (some ⟨g,0,none⟩) 2 2)/\z.cell? ⟨g,0,none⟩=some (.int .i64 a)/\z.cell? ⟨g,1,none⟩=some (.int .i64 b)) (by kernel_rfl) ⟨p0,p1,p2⟩ (fun hHeld=> ?_);refine pcY 1 ?_;iterate 11 (refine ptY ?_)
    refine w1H 0 (fun K hK=> ?_);go_simp;refine hK.out _ _ ⟨p0,p1,p2⟩ (fun hHeld=> ?_);clear hK K;try simp only[Act.put,sl0,sl1,sl2]
    refine w1H 13 (fun K hK=> ?_);go_simp;go_at_call 91;refine(KA.out).mono ?_
    rintro e w6 ⟨A6,c6,t6,y6,rfl,ho6,hb6⟩;have HU6:=hh_ (HU.drew.keep hb6);have q0:=HU6.c0;have q1:=HU6.c1;have q2:=HU6.f0;have q3:=HU6.f1;have F6:=fr2 w6 W2.heap.size (.int .i64 7) (.slice A6 7 c6);have S6:w6.cell? ⟨W2.heap.size+1+1+1+1+1+1+1,k,none⟩=some (.slice (some ⟨g,0,none⟩) 2 2)/\w6.cell? ⟨g,0,none⟩=some (.int .i64 a)/\w6.cell? ⟨g,1,none⟩=some (.int .i64 b):=⟨up hb6 p0 hgl,up hb6 p1 hdl,up hb6 p2 hdl⟩;have hz6:wr.heap.size<=w6.heap.size:=hb6.size;refine hK.out _ _ S6 (fun hHeld=> ?_);clear hK K;try simp only[Act.put,sl0,sl1,sl2]
    iterate 3 (refine ptY ?_)
    refine w1H 17 (fun K hK=> ?_);go_simp;refine hK.out _ _ ⟨frC_ F6 S6.1 (Nat.lt_of_lt_of_le hgl hz6) ns1,frC_ F6 S6.2.1 (Nat.lt_of_lt_of_le hdl hz6) ns2,frC_ F6 S6.2.2 (Nat.lt_of_lt_of_le hdl hz6) ns2⟩ (fun hHeld=> ?_);clear hK K;try simp only[Act.put,sl0,sl1,sl2]
    refine wpAnyH_done (by kernel_rfl) ?_ _;obtain⟨W7,hW7⟩: ∃W7,W7=((w6.setCell ⟨W2.heap.size,0,none⟩ (.int .i64 7)).setCell ⟨W2.heap.size,1,none⟩ (.slice A6 7 c6)):=⟨_,rfl⟩;rw[<-hW7] at F6 ⊢;have hb6':Below wr.heap.size wr w6:=⟨hb6.os,hb6.tape,hb6.output,hb6.size,hb6.block⟩;have HS7:Hid (DS w W7 q A nb cb W2.heap.size w1.heap.size 7):=by rw[hW7];exact HS.set hb6' (ho6.mono (by omega) nr_)
    have HF7:Hid (Fr W2.heap.size (W2.heap.size+1) W4 W7):=(HFr.trans (Fr.of_below hb6')).trans F6;clear hW7 ho6 hb6 hb6' KA e0 e1 p0 p1 p2 HU HS HFr HU6 F6 S6 q0 q1 q2 q3;go_wp2;go_roundw;case rel=>exact⟨k+1,by omega,by go_num,HS7,HF7⟩
    case measure=>simp[intOf]<;>omega
   ·obtain rfl:k=6:=by omega
    clear HE HFr;have KB:=hh_ (l1Below_s (k:=7) HS.cu (by omega) (by omega));go_wp2_with fail
    refine KB.mono ?_;rintro e w3 ⟨a,rfl,ha,hd⟩;replace HS:=hh_ (HS.draw hd);clear hd KB;have KB:=hh_ (l1Below_s (k:=7) HS.cu (by omega) (by omega));go_wp2_with fail
    refine KB.mono ?_;rintro e w5 ⟨b,rfl,hb,hd⟩;replace HS:=hh_ (HS.draw hd);clear hd KB;have KB:=hh_ (l1Once_s (k:=2) HS.cu (by omega) (by omega));go_wp2_with fail
    refine KB.mono ?_;rintro e w9 ⟨y,rfl,hd⟩;replace HS:=hh_ (HS.draw hd);clear hd KB;have d0:=HS.d.c0;have d1:=HS.d.c1;have d2:=HS.d.f0;have d3:=HS.d.f1;have j1:(w.heap.size=W2.heap.size)=False:=by simp;omega
    have j2:(W2.heap.size=w.heap.size)=False:=by simp;omega
    cases y
    ·obtain⟨B,d,e0,e1,hF⟩:=HS.dg (by omega);have HF:=hh_ hF;replace e0:w9.cell? ⟨W2.heap.size,0,none⟩=some (.int .i64 7):=e0;clear hF;go_wp2;exact bodyPost_ret (v:=.agg #[.int .i64 7,.slice B 7 d]) (by simp[results,Tryz.results230,go_sem, *]) rfl HF.out
    ·obtain⟨A2,c2,x2,hg1,ho1,hne⟩:=HS.gu.ex;have e0:w9.cell? ⟨W2.heap.size,0,none⟩=some (.int .i64 7):=hg1.c0;have e1:=hg1.c1;have HG1:Hid (GC w9 W2.heap.size 7 A2 7 c2):=hg1;have KA:Hid (Calls Tryz.prog 91 #[.agg #[.int .i64 7,.slice A2 7 c2],.int .i64 a,.int .i64 b] w9 _):=AddEdge_s (7:Int) A2 7 c2 x2 a b w9 w9.heap.size ho1.rd nr_ (by omega);clear hg1 ho1 hne;go_wp2_with fail
     refine KA.mono ?_;rintro e v5 ⟨A5,c5,rfl,hO5,hb5⟩;have hn5:=HG1.keep hb5;have n0:=hn5.c0;have n1:=hn5.c1;have n2:=hn5.f0;have n3:=hn5.f1;obtain⟨V6,hV6⟩: ∃V6,V6=((v5.setCell ⟨W2.heap.size,0,none⟩ (.int .i64 7)).setCell ⟨W2.heap.size,1,none⟩ (.slice A5 7 c5)):=⟨_,rfl⟩;have hlQ:=HG1.lt;have HS6:Hid (DS w V6 q A nb cb W2.heap.size w1.heap.size 7):=by rw[hV6];exact HS.set hb5 (hO5.mono (by omega) nr_)
     have ho6:Own V6 w1.heap.size V6.heap.size 3 1 A5 7 c5 (fun j=> .int .i64 (aeX 7 7 x2 a b j)):=by
      rw[hV6];exact(hO5.keep (fr2 v5 W2.heap.size (.int .i64 7) (.slice A5 7 c5)) (.inr (by omega))).mono (by omega) (fr2 v5 W2.heap.size (.int .i64 7) (.slice A5 7 c5)).size
     have HF:=hh_ (dgR.fin0 (sz:=7) (by omega) HS6.cu HS6.fr HS6.l1 ho6 HS6.l2);have hd5:=HS.d.keep hb5;have d0:=hd5.c0;have d1:=hd5.c1;have d2:=hd5.f0;have d3:=hd5.f1;have HV6:=hh_ hV6;have r0:=HS6.d.c0;have r1:=HS6.d.c1;clear hO5 hb5 hn5 ho6 hV6 KA e0 e1 hd5;go_wp2;rw[<-HV6.out];exact bodyPost_ret (v:=.agg #[.int .i64 7,.slice A5 7 c5]) (by simp[results,Tryz.results230,go_sem,r0,r1]) rfl HF.out
set_option maxRecDepth 100000 in
theorem l12Graph_s (hc:Cu w q A nb cb):Calls Tryz.prog 157 #[.pointer (some ⟨q,0,none⟩)] w (dgR w q A nb cb):=by
 obtain⟨W,hW⟩: ∃W,W=(w.alloc (Obj.cells #[.int .i64 0,.slice none 0 0] 26)):=⟨_,rfl⟩;have HD:Hid (D0 w W q A nb cb):=by rw[hW];exact D0.new hc
 have HW:=hh_ hW;have KB:=hh_ (l1Once_s (k:=2) HD.cu (by omega) (by omega));clear hW hc;go_enter Tryz.func157,Tryz.ntmps157;go_wp2_with fail
 rw[<-HW.out];clear HW;refine KB.mono ?_;rintro e w1 ⟨y,rfl,hd⟩;replace HD:=hh_ (HD.draw hd);clear hd KB;have hq2:=HD.lt;cases y
 rotate_left
 ·have KR:=hh_ (l11Graph_s HD.cu);go_wp2_with fail
  refine KR.mono ?_;rintro e w3 ⟨sz,B,m,d,x,rfl,hm7,ho,hd⟩;have HD3:=hh_ (HD.draw hd);have HF:=hh_ (dgR.fin0 (sz:=sz) hm7 HD3.cu HD3.fr HD3.l1 ho hq2);have d0:=HD3.d.c0;have d1:=HD3.d.c1;have d2:=HD3.d.f0;have d3:=HD3.d.f1;clear ho hd KR HD;go_wp2;exact bodyPost_ret (v:=.agg #[.int .i64 sz,.slice B m d]) (by simp[results,Tryz.results157,go_sem, *]) rfl HF.out
 ·obtain⟨W2,hW2⟩: ∃W2,W2=(w1.alloc (Obj.cells #[.slice none 0 0,.slice none 0 0] 159)):=⟨_,rfl⟩;have HL:Hid (LM w w1 W2 q A nb cb w1.heap.size none 0 [] none 0 []):=by
   have hb:Below w1.heap.size w1 W2:=by rw[hW2];exact br_.alloc nr_ _
   have hlt:=HD.lt;refine⟨HD.cu.keep hb,HD.fr.trans (Fr.of_below hb),HD.l1,hlt,rb_below (fun j=>⟨rfl,rfl⟩) hb hlt,?_,TwoN.nil _ _⟩;rw[hW2];exact MB.new _
  have HW2:=hh_ hW2;have KB:=hh_ (l1Below_s (k:=6) HL.cu (by omega) (by omega));clear hW2;go_wp2_with fail
  rw[<-HW2.out];clear HW2;refine KB.mono ?_;rintro e w3 ⟨v,rfl,hv,hd⟩;replace HL:=hh_ (HL.draw hd);clear hd KB;go_wp2;go_loopw [4] (fun i wr=> ∃(k:Nat) (T U:List Nat) (A1:Option Addr) (k1:Nat) (A2:Option Addr) (k2:Nat),T.length+k<=6/\U.length+k<=6/\i=.int .i64 k/\Hid (LM w w1 wr q A nb cb w1.heap.size A1 k1 T A2 k2 U)) (fun i _=>(intOf i).toNat);case atStart=>exact⟨v+1,[],[],none,0,none,0,by simp;omega,by simp;omega,by go_num,HL⟩
  case round=>
   clear HL;obtain⟨k,T,U,A1,k1,A2,k2,hT,hU,rfl,HL⟩:=hrel;by_cases hk0:0<k
   ·obtain⟨j,rfl⟩: ∃j,k=j+1:=⟨k-1,by omega⟩;have i1:(0:Int)<((j+1:Nat):Int):=by omega
    have KB:=hh_ (l1Below_s (k:=12) HL.cu (by omega) (by omega));go_wp2_with fail
    refine KB.mono ?_;rintro e w3 ⟨a,rfl,ha,hd⟩;replace HL:=hh_ (HL.draw hd);clear hd KB;obtain⟨b,hb⟩: ∃b:Nat,(a:Int)+3=(b:Int):=⟨a+3,by omega⟩;have s0:wrap64 ((a:Int)+3)=(b:Int):=by rw[hb];exact Go.IntWalk.wrap64_in _ (by omega)
    have TT:=hh_ (HL.t.alloc (Obj.cells #[.int .i64 (a:Int)] 3));have LL:Hid (w1.heap.size+1<=(w3.alloc (Obj.cells #[.int .i64 (a:Int)] 3)).heap.size):=by show _<=_;have:=HL.m.lt;simp;omega
    have hla:(T++ [a]).length=T.length+1:=by rw[List.length_append];rfl
    have hlb:(U++ [b]).length=U.length+1:=by rw[List.length_append];rfl
    have n6:T.length<=1073741824:=by omega
    have n7:U.length<=1073741824:=by omega
    have c0:=HL.m.c0;have c1:=HL.m.c1;have f0:=HL.m.f0;have f1:=HL.m.f1;have hmlt:=HL.m.lt;go_wp2_with (first
     |((refine wpList_twoN _ (by rfl) _ _ (by rfl) TT.out LL.out (by rfl) w3.heap.size 1 a (by rfl) (heap_alloc_new w3 _) n6 ?_;intro gA kA wA hTA hbA;have hMA:=HL.old hbA;have mA0:=hMA.c0;have mA1:=hMA.c1;have mA2:=hMA.f0;have mA3:=hMA.f1;have nA:=hMA.lt;have HA:=HL.push0 hTA hbA))
     |((refine wpList_twoN _ (by rfl) _ _ (by rfl) (HA.t.alloc (Obj.cells #[.int .i64 (b:Int)] 3)).swap (by show _<=_;simp[World.setCell];omega) (by rfl) wA.heap.size 1 b (by rfl) (by have hh:=heap_alloc_new (wA.setCell ⟨w1.heap.size,0,none⟩ (.slice (some ⟨gA,0,none⟩) (T.length+1) kA)) (Obj.cells #[.int .i64 (b:Int)] 3);have he:(wA.setCell ⟨w1.heap.size,0,none⟩ (.slice (some ⟨gA,0,none⟩) (T.length+1) kA)).heap.size=wA.heap.size:=(by simp[World.setCell]);rw[he] at hh;exact hh) n7 ?_;intro gB kB wB hTB hbB;have hMB:=HA.old hbB;have m0:=hMB.c0;have m1:=hMB.c1;have m2:=hMB.f0;have m3:=hMB.f1;have HB9:=HA.push1 hTB hbB))
     |fail)
    obtain⟨W9,hW9⟩: ∃W9,W9=wB.setCell ⟨w1.heap.size,1,none⟩ (.slice (some ⟨gB,0,none⟩) (U.length+1) kB):=⟨_,rfl⟩;rw[<-hW9] at HB9 ⊢;have HL9:=hh_ HB9;clear hW9 HB9 hTA hbA hMA mA0 mA1 mA2 mA3 nA HA hTB hbB hMB m0 m1 m2 m3 TT LL c0 c1 f0 f1 hmlt;go_wp2;go_roundw;case rel=>exact⟨j,T++ [a],U++ [b],_,_,_,_,by omega,by omega,by go_num,HL9⟩
    case measure=>simp[intOf]<;>omega
   ·obtain rfl:k=0:=by omega
    have KG:=hh_ (GraphOfIntervals_d A1 T.length k1 (T.map fun v:Nat=>(v:Int)) A2 U.length k2 (U.map fun v:Nat=>(v:Int)) wr (LN.li ⟨HL.t.o1.rd⟩) (LN.li ⟨HL.t.o2.rd⟩) (by omega));have c0:=HL.m.c0;have c1:=HL.m.c1;have hlw:w.heap.size<w1.heap.size:=HL.l2;have hlr:w1.heap.size<wr.heap.size:=HL.m.lt;have HR:=hh_ HD.d;clear HD;go_wp2_with fail
    refine KG.mono ?_;rintro e w5 ⟨s5,A5,m5,c5,x5,ok5,rfl,h7,ho5,hb5⟩;have HC:Hid (Cu w5 q A nb cb):=HL.cu.keep hb5;have HF:Hid (Fr q (q+1) w w5):=HL.fr.trans (Fr.of_below hb5);have hr5:=rb_below HL.rb hb5 (by omega);have d0:=(hr5 0).1.trans HR.c0;have d1:=(hr5 1).1.trans HR.c1;have d2:=(hr5 0).2.trans HR.f0;have d3:=(hr5 1).2.trans HR.f1;have HE:=hh_ ((dgR.fin0 (sz:=s5) h7 HC HF.out HL.l1 ho5 (by omega)).below (br_.alloc nr_ (Obj.cells #[.int .i64 s5,.slice A5 m5 c5] 26)));have hl5:w.heap.size<w5.heap.size:=by have:=hb5.size;omega
    have j1:(w.heap.size=w5.heap.size)=False:=by simp;omega
    have j2:(w5.heap.size=w.heap.size)=False:=by simp;omega
    clear hr5 ho5 hb5 KG HL c0 c1 HC HF HR;go_wp2;exact bodyPost_ret (v:=.agg #[.int .i64 s5,.slice A5 m5 c5]) (by simp[results,Tryz.results157,go_sem, *]) rfl HE.out
end
end Go.Proofs.YtfabbohijhjpcaaGreatDoor
