/- Lemmas. -/
import Derived.Test.YtfabbohijhjpcaaGreatDoorRbSafP
/-
-/
namespace Go.Proofs.YtfabbohijhjpcaaGreatDoor
open Go.RowKit
set_option maxHeartbeats 6400000
theorem wpList_pushEc (W:World) {ops:Array Oper} {rest:List Oper} {o:Oper} {a:Act} {Q:Exit->Act->World->Prop} (hgd:o.guard=none) (s y:Operand)
 (ho:o.op=.call {callee:=.builtin .append,args:= #[s,y],argTypes:= #[27,27]})
 (g c:Nat) (T:List (Bool×Int×Int)) (h:Own W g (g+1) 48 3 (some ⟨g,0,none⟩) T.length c (edT T)) (hg:g<W.heap.size) (p:Bool) (q r:Int) (hs:a.eval s=.slice (some ⟨g,0,none⟩) T.length c) (cx H:Nat) (hH:W.heap.size=H) (hy:a.eval y=.slice (some ⟨H,0,none⟩) 1 cx)
 (hn:T.length<=1073741824)
 (hK: ∀g' cap w',Own w' g' (g'+1) 48 3 (some ⟨g',0,none⟩) (T.length+1) cap (edT (T++ [(p,q,r)]))->(g'=g\/W.heap.size<g')->g'<w'.heap.size->Fr g (g+1) W w'->wpList Tryz.prog ops Q rest (a.put o.dst (.slice (some ⟨g',0,none⟩) (T.length+1) cap)) w'):
 wpList Tryz.prog ops Q (o::rest) a (W.alloc (Obj.cells #[.bool p,.int .i64 q,.int .i64 r] 48)):=by
 subst hH;have ha:=h.alloc (Obj.cells #[.bool p,.int .i64 q,.int .i64 r] 48);refine wpList_push (W.alloc (Obj.cells #[.bool p,.int .i64 q,.int .i64 r] 48)) hgd s y 27 ho 48 _ 3 24 Tryz.underlying27 info_edit rfl (by omega) g (g+1) (some ⟨g,0,none⟩) T.length c (edT (T++ [(p,q,r)])) hs
  (ha.congr (fun j hj=>(edT_left hj).symm)) (by simp;omega) W.heap.size #[.bool p,.int .i64 q,.int .i64 r] 48 (0,0) cx (heap_alloc_new W _) hy rfl edT_news (by simp[Value.oneCell']) hn (by omega) ?_
 intro g' cap w' hp;obtain⟨h1,h2,h3,h4⟩:=hp.caged;exact hK g' cap w' h1 (h2.imp id (fun h=>by rw[h];simp)) h3 (((Fr.refl g (g+1) W).alloc _).trans h4)
theorem ed_nil (w:World):Own (w.alloc (Obj.cells #[] 48)) w.heap.size (w.heap.size+1) 48 3 (some ⟨w.heap.size,0,none⟩) 0 0 (edT []):=
 .inr ⟨w.heap.size,#[],rfl,nr_,Nat.lt_succ_self _,heap_alloc_new w _,nr_,by unfold maxLen;omega,rfl,fun j hj=>absurd hj (by omega)⟩
def seQe (w:World) (l:List (Bool×Int×Int)) (e:Ending) (w':World):Prop:=
 ∃A' c',e=.returned (.slice A' l.length c')/\Own w' w.heap.size w'.heap.size 48 3 A' l.length c' (edT l)/\Below w.heap.size w w'
set_option maxRecDepth 100000 in
theorem SafeEdits_v {A:Option Addr} {m c:Nat} {r:Nat->Nat} {w:World} (str:ByteArray) (h:GV w A m c r):
 Calls Tryz.prog 21 #[.agg #[.int .i64 m,.slice A m c],.string str] w (seQe w (seV r m str.toList)):=by
 have hm7:=h.vg.n7;have hm1:=h.vg.n1;obtain⟨W,hW⟩: ∃W,W=((w.alloc (Obj.cells #[.int .i64 m,.slice A m c] 26)).alloc (Obj.cells #[] 48)):=⟨_,rfl⟩;have HB:Hid (From w W):=by rw[hW];exact(From.alloc _ _).alloc_ _
 have HC:Hid (GC W w.heap.size m A m c):=by rw[hW];exact(GC.new _ _ _ _ _).keep (br_.alloc nr_ _)
 have HG:Hid (GV W A m c r):=h.keep HB.below;have hzW:W.heap.size=w.heap.size+2:=by rw[hW];simp
 have HO:Hid (Own W (w.heap.size+1) (w.heap.size+1+1) 48 3 (some ⟨w.heap.size+1,0,none⟩) 0 0 (edT [])):=by
  rw[hW];have:=ed_nil (w.alloc (Obj.cells #[.int .i64 m,.slice A m c] 26));have e:(w.alloc (Obj.cells #[.int .i64 m,.slice A m c] 26)).heap.size=w.heap.size+1:=by simp
  rw[e] at this;exact this
 have HGw:=hh_ h;have HW:=hh_ hW;clear hW h;go_enter Tryz.func21,Tryz.ntmps21;obtain⟨e0,e1⟩:=gc_ HC;go_wp2_with fail
 rw[<-HW.out];clear HW;refine(IsGraph_v HG).mono ?_;rintro e w1 ⟨rfl,hb1⟩;have HO1:=hh_ (HO.keepB hb1 (by omega));have hz1:=hb1.size;clear e0 e1;replace HB:=hh_ (HB.keep hb1);replace HG:=hh_ (HG.keep hb1);replace HC:=hh_ (HC.keep hb1);clear hb1 HO;obtain⟨e0,e1⟩:=gc_ HC;go_wp2_with fail
 refine(pairsOf_any m hm7 w1).mono ?_;rintro e w2 ⟨Ad0,cd0,D,rfl,hD,hOD,hb2⟩;have HO2:Hid (Own w2 (w.heap.size+1) (w.heap.size+1+1) 48 3 (some ⟨w.heap.size+1,0,none⟩) 0 0 (edT [])):=HO1.keepB hb2 (by omega);have hz2:=hb2.size;have HD:=hh_ hD;have HOD:=hh_ hOD;have hlen21:D.length<=21:=by rw[pairs_len hD];exact length_pr_le hm7
 have Hlen:=hh_ (pairs_len hD);have HV:=hh_ HG.vg;clear e0 e1;replace HB:=hh_ (HB.keep hb2);replace HG:=hh_ (HG.keep hb2);replace HC:=hh_ (HC.keep hb2);clear hb2 hD hOD HO1;obtain⟨e0,e1⟩:=gc_ HC;have HBs:=HB;have HCs:=HC;clear HG;go_wp2;go_loopw [5,20] (fun o i wr=> ∃(k c5 g:Nat),k<=D.length/\i=.int .i64 k/\o=.slice (some ⟨g,0,none⟩) (seR r m str.toList ((pr m).take k)).length c5/\w.heap.size<g/\g<wr.heap.size/\(g<w1.heap.size\/w2.heap.size<=g)/\Hid (Own wr g (g+1) 48 3 (some ⟨g,0,none⟩) (seR r m str.toList ((pr m).take k)).length c5 (edT (seR r m str.toList ((pr m).take k))))/\Hid (OwnD wr w1.heap.size w2.heap.size Ad0 cd0 D)/\Hid (From w wr)/\Hid (GC wr w.heap.size m A m c)/\w2.heap.size<=wr.heap.size) (fun _ i _=>D.length-(intOf i).toNat);case atStart=>exact⟨0,0,w.heap.size+1,Nat.zero_le _,rfl,rfl,by omega,by omega,by omega,HO2,HOD,HBs,HCs,nr_⟩
 case round=>
  clear HO2 HOD HBs HCs HB HC e0 e1;obtain⟨k,c5,g,hk,rfl,rfl,hg1,hg2,hg3,HO,HOD,HB,HC,hw2⟩:=hrel;by_cases hlt:k<D.length
  ·obtain⟨Ad,cd,v,u,hd,hpk,hvu,hum⟩:=pair_at HD.out hlt;obtain⟨gD,gd,rfl,rfl,r0,r1,r2,gd1,gd2⟩:=HOD.pair2 hd;have HGr:=hh_ (HGw.keep HB.below);obtain⟨bG,oG,rfl⟩:=HGr.addr;have p0:=HGr.row (v:=v) (by omega);have h128:=HV.lt128 (v:=v) (by omega);have i1:(k:Int)<D.length:=by omega
   have i2:(v:Int)<m:=by omega
   have Hp:=hh_ (take_pr hpk);obtain⟨TT,hTT⟩: ∃TT,TT=seR r m str.toList ((pr m).take k):=⟨_,rfl⟩;have hTl:TT.length<=21:=by
    have:=seR_len (r:=r) (m:=m) (s:=str.toList) (P:=(pr m).take k);rw[List.length_take] at this;rw[hTT];omega
   have HTT:=hh_ hTT;rw[<-hTT] at HO ⊢;obtain⟨t,ht⟩: ∃t,t=(r v).testBit u:=⟨_,rfl⟩;have Hse:Hid (seB r (v,u)= !t):=by rw[ht];exact rfl
   have KH:Hid (∀z:World,Calls Tryz.prog 44 #[.int .i64 (r v:Nat),.int .i64 (u:Nat)] z fun e w'=>e=.returned (.bool t)/\z=w'):=fun z=>by rw[ht];exact has_v z (by omega) (by omega)
   clear hd hpk hTT ht;have e1:=HC.c1;have e0:=HC.c0;have HSC:Hid (∀z:World,Below wr.heap.size wr z->(Below wr.heap.size wr z/\z.cell? ⟨w.heap.size,1,none⟩=some (.slice (some ⟨bG,oG,none⟩) m c)/\z.cell? ⟨gd,0,none⟩=some (.int .i64 v)/\z.cell? ⟨gd,1,none⟩=some (.int .i64 u)/\z.cell? ⟨bG,oG+v,none⟩=some (.int .i64 (r v:Nat)))):=fun z hz=>⟨hz,up_ hz e1,up_ hz r1,up_ hz r2,up_ hz p0⟩
   have HZ0:Hid (Below wr.heap.size wr wr.drew):=br_.drew;have HZ1:Hid (∀o,Below wr.heap.size wr (wr.drew.alloc o)):=fun o=>br_.drew.alloc nr_ _
   have HZ2:Hid (∀o,Below wr.heap.size wr (wr.alloc o).drew):=fun o=>(br_.alloc nr_ _).drew
   have HS1:=hh_ (HSC.out _ HZ0.out);go_wp2;go_region_held3 (fun z=>Below wr.heap.size wr z/\z.cell? ⟨w.heap.size,1,none⟩=some (.slice (some ⟨bG,oG,none⟩) m c)/\z.cell? ⟨gd,0,none⟩=some (.int .i64 v)/\z.cell? ⟨gd,1,none⟩=some (.int .i64 u)/\z.cell? ⟨bG,oG+v,none⟩=some (.int .i64 (r v:Nat)))
    (first|exact HS1.out|assumption|exact HSC.out _ (HZ1.out _)|exact HSC.out _ (HZ2.out _)|fail)
    (first|(go_at_call 44;((with_reducible refine(KH.out _).mono ?_);rintro e w' ⟨rfl,rfl⟩)))
   all_goals
    obtain⟨W5,hW5⟩: ∃W5,W5=(wr.alloc (Obj.cells #[.bool (!t),.int .i64 v,.int .i64 u] 48)).drew:=⟨_,rfl⟩;rw[<-hW5];have hb5:Below wr.heap.size wr W5:=by rw[hW5];exact HZ2.out _
    obtain⟨E5,hE5⟩: ∃E5,E5=wr.heap.size:=⟨_,rfl⟩;have HE5:Hid (W5.cell? ⟨E5,0,none⟩=some (.bool (!t))/\W5.cell? ⟨E5,1,none⟩=some (.int .i64 v)/\W5.cell? ⟨E5,2,none⟩=some (.int .i64 u)):=by
     rw[hW5,hE5];refine⟨?_,?_,?_⟩<;>simp[go_sem]
    rw[<-hE5];have HB5:=hh_ (HB.keep hb5);have HC5:=hh_ (HC.keep hb5);have HO5:Hid (Own W5 g (g+1) 48 3 (some ⟨g,0,none⟩) TT.length c5 (edT TT)):=HO.keepB hb5 hg2;have HD5:Hid (OwnD W5 w1.heap.size w2.heap.size (some ⟨gD,0,none⟩) cd0 D):=HOD.keepB hb5 hw2;have hg5:g<W5.heap.size:=Nat.lt_of_lt_of_le hg2 hb5.size;have hz5:=hb5.size;clear hW5 hE5 hb5 HSC HZ0 HZ1 HZ2 HS1 KH e0 e1 r0 r1 r2 p0 HGr HO HOD HB HC;obtain⟨b,hb⟩: ∃b,b=seP r m str.toList (v,u):=⟨_,rfl⟩;obtain⟨tb,htb⟩: ∃tb,tb=apB (!t) (m:Int) m (xr r) (v:Nat) (u:Nat):=⟨_,rfl⟩;obtain⟨X,hX⟩: ∃X,X=apX (!t) (m:Int) m (xr r) (v:Nat) (u:Nat):=⟨_,rfl⟩;have KA:Hid (Calls Tryz.prog 38 #[.agg #[.int .i64 m,.slice (some ⟨bG,oG,none⟩) m c],.agg #[.bool (!t),.int .i64 v,.int .i64 u]] W5 fun e w'=> ∃A' c',e=.returned (.tuple #[.agg #[.int .i64 m,.slice A' m c'],.bool tb])/\GA w' A' m c' X/\Below W5.heap.size W5 w'):=by
     rw[htb,hX];exact(applied_v (HGw.keep HB5.below) (!t) v u).mono fun _ _ ⟨A6,c6,h1,hg6,hb6⟩=>⟨A6,c6,h1,hg6,hb6⟩
    have KI:Hid (∀ {z:World} {A':Option Addr} {c':Nat},GA z A' m c' X->Calls Tryz.prog 47 #[.agg #[.int .i64 m,.slice A' m c'],.string str] z fun e w'=>e=.returned (.bool b)/\Below z.heap.size z w'):=by
     have hbX:b=isB (m:Int) m X str.toList:=by rw[hb,hX];show isB _ _ (apX (seB r (v,u)) _ _ _ _ _) _=_;rw[Hse.out]
     rw[hbX];exact fun {_ _ _} h=>IsIn_i (m:Int) _ m _ X str _ h (by omega)
    have Hyes:Hid (b=true->seR r m str.toList ((pr m).take (k+1))=TT++ [(!t,(v:Int),(u:Int))]):=fun hh=>by
     have:=seR_yes (r:=r) (m:=m) (s:=str.toList) (P:=(pr m).take k) (p:=(v,u)) (hb.symm.trans hh);rw[Hp.out,this,<-HTT.out,Hse.out]
    have Hno:Hid (b=false->seR r m str.toList ((pr m).take (k+1))=TT):=fun hh=>by
     have:=seR_no (r:=r) (m:=m) (s:=str.toList) (P:=(pr m).take k) (p:=(v,u)) (hb.symm.trans hh);rw[Hp.out,this,<-HTT.out]
    clear hb htb hX;have l0:=HE5.out.1;have l1:=HE5.out.2.1;have l2:=HE5.out.2.2;have e0:=HC5.c0;have e1:=HC5.c1;have hE5l:=World.block_lt_of_cell? _ _ l0;have HE5l:=hh_ hE5l;go_wp2_with fail
    refine KA.mono ?_;rintro e w6 ⟨A6,c6,rfl,hg6,hb6⟩;clear l0 l1 l2 e0 e1 hE5l;obtain⟨W6,hW6⟩: ∃W6,W6=w6.alloc (Obj.cells #[.int .i64 m,.slice A6 m c6] 26):=⟨_,rfl⟩;have hbz:Below w6.heap.size w6 W6:=by rw[hW6];exact br_.alloc nr_ _
    have hb56:Below W5.heap.size W5 W6:=bl_trans hb6 hbz;have HQ6:Hid (GC W6 w6.heap.size m A6 m c6):=by rw[hW6];exact GC.new _ _ _ _ _
    have HX6:Hid (GA W6 A6 m c6 X):=hg6.keep hbz;have HW6:=hh_ hW6;have HB6:=hh_ (HB5.keep hb56);have HC6:=hh_ (HC5.keep hb56);have HO6:Hid (Own W6 g (g+1) 48 3 (some ⟨g,0,none⟩) TT.length c5 (edT TT)):=HO5.keepB hb56 hg5;have HD6:Hid (OwnD W6 w1.heap.size w2.heap.size (some ⟨gD,0,none⟩) cd0 D):=HD5.keepB hb56 (by omega);clear HB5 HC5 HO5 HD5;have HE6:Hid (W6.cell? ⟨E5,0,none⟩=some (.bool (!t))/\W6.cell? ⟨E5,1,none⟩=some (.int .i64 v)/\W6.cell? ⟨E5,2,none⟩=some (.int .i64 u)):=⟨up hb56 HE5.out.1 HE5l.out,up hb56 HE5.out.2.1 HE5l.out,up hb56 HE5.out.2.2 HE5l.out⟩;have hg6l:g<W6.heap.size:=Nat.lt_of_lt_of_le hg5 hb56.size;have hz56:=hb56.size;have HE6l:Hid (E5<W6.heap.size):=Nat.lt_of_lt_of_le HE5l.out hb56.size;clear hW6 hg6 hb6 hbz hb56 HE5 HE5l KA;have m0:=HQ6.c0;have m1:=HQ6.c1;go_wp2_with fail
    rw[<-HW6.out];clear HW6;refine(KI.out HX6.out).mono ?_;rintro e w7 ⟨rfl,hb7⟩;have HB7:=hh_ (HB6.keep hb7);have HC7:=hh_ (HC6.keep hb7);have HO7:Hid (Own w7 g (g+1) 48 3 (some ⟨g,0,none⟩) TT.length c5 (edT TT)):=HO6.keepB hb7 hg6l;have HD7:Hid (OwnD w7 w1.heap.size w2.heap.size (some ⟨gD,0,none⟩) cd0 D):=HD6.keepB hb7 (by omega);clear HB6 HC6 HO6 HD6;have HE7:Hid (w7.cell? ⟨E5,0,none⟩=some (.bool (!t))/\w7.cell? ⟨E5,1,none⟩=some (.int .i64 v)/\w7.cell? ⟨E5,2,none⟩=some (.int .i64 u)):=⟨up hb7 HE6.out.1 HE6l.out,up hb7 HE6.out.2.1 HE6l.out,up hb7 HE6.out.2.2 HE6l.out⟩;have hg7l:g<w7.heap.size:=Nat.lt_of_lt_of_le hg6l hb7.size;have hz67:=hb7.size;clear m0 m1 HQ6 HX6 KI HE6 HE6l hb7;cases b
    ·have Hn:=hh_ (Hno.out rfl);go_wp2;go_roundw;case rel=>exact⟨k+1,c5,g,by omega,by go_num,by rw[Hn.out],hg1,hg7l,hg3,by rw[Hn.out];exact HO7,HD7,HB7,HC7,by omega⟩
     case measure=>simp[intOf]<;>omega
    ·have Hn:=hh_ (Hyes.out rfl);have l0:=HE7.out.1;have l1:=HE7.out.2.1;have l2:=HE7.out.2.2;have hzB:=HB7.below.size;go_wp2_with (first|(at_builtin;(refine wpList_pushEc w7 rfl _ _ rfl g c5 TT HO7.out hg7l (!t) (v:Int) (u:Int) rfl 1 w7.heap.size rfl rfl (by omega) ?_;intro g3 c3 w8 hO3 hg8 hg9 hf3)))
     have HO8:Hid (Own w8 g3 (g3+1) 48 3 (some ⟨g3,0,none⟩) (seR r m str.toList ((pr m).take (k+1))).length c3 (edT (seR r m str.toList ((pr m).take (k+1))))):=by show Own _ _ _ _ _ _ _ _ _;rw[Hn.out,List.length_append];exact hO3
     have HB8:Hid (From w w8):=⟨HB7.below.trans (hf3.below (by omega) hzB)⟩;have HC8:Hid (GC w8 w.heap.size m (some ⟨bG,oG,none⟩) m c):=HC7.keepF hf3 (.inl hg1);have HD8:Hid (OwnD w8 w1.heap.size w2.heap.size (some ⟨gD,0,none⟩) cd0 D):=HD7.keep hf3 (by omega);have hz8:=hf3.size;clear hO3 hf3;go_roundw;case rel=>exact⟨k+1,c3,g3,by omega,by go_num,by rw[Hn.out,List.length_append];rfl,by omega,hg9,by omega,HO8,HD8,HB8,HC8,by omega⟩
     case measure=>simp[intOf]<;>omega
  ·have hkD:k=D.length:=by omega
   have i1:(D.length:Int)<=(k:Int):=by omega
   have Hs:Hid (seR r m str.toList ((pr m).take k)=seV r m str.toList):=by show _=_;rw[hkD,Hlen.out,List.take_length];rfl
   rw[Hs.out] at HO ⊢;clear hkD;go_wp2;go_ret;exact⟨some ⟨g,0,none⟩,c5,rfl,HO.mono (by omega) hg2,HB.below⟩
set_option maxHeartbeats 6400000
set_option maxRecDepth 100000 in
theorem SafeEdits_sv {A:Option Addr} {m c:Nat} {r:Nat->Nat} {w:World} (str:ByteArray) (h:GV w A m c r):
 Calls Tryz.prog 22 #[.agg #[.int .i64 m,.slice A m c],.string str] w (seQe w (seV r m str.toList)):=by
 have hm7:=h.vg.n7;have hm1:=h.vg.n1;obtain⟨W,hW⟩: ∃W,W=((w.alloc (Obj.cells #[.int .i64 m,.slice A m c] 26)).alloc (Obj.cells #[] 48)):=⟨_,rfl⟩;have HB:Hid (From w W):=by rw[hW];exact(From.alloc _ _).alloc_ _
 have HC:Hid (GC W w.heap.size m A m c):=by rw[hW];exact(GC.new _ _ _ _ _).keep (br_.alloc nr_ _)
 have HG:Hid (GV W A m c r):=h.keep HB.below;have hzW:W.heap.size=w.heap.size+2:=by rw[hW];simp
 have HO:Hid (Own W (w.heap.size+1) (w.heap.size+1+1) 48 3 (some ⟨w.heap.size+1,0,none⟩) 0 0 (edT [])):=by
  rw[hW];have:=ed_nil (w.alloc (Obj.cells #[.int .i64 m,.slice A m c] 26));have e:(w.alloc (Obj.cells #[.int .i64 m,.slice A m c] 26)).heap.size=w.heap.size+1:=by simp
  rw[e] at this;exact this
 have HGw:=hh_ h;have HW:=hh_ hW;clear hW h;go_enter Tryz.func22,Tryz.ntmps22;obtain⟨e0,e1⟩:=gc_ HC;have HO0:Hid (Own W (w.heap.size+1) (w.heap.size+1+1) 48 3 (some ⟨w.heap.size+1,0,none⟩) (seR r m str.toList (prTo m 0 (0+1))).length 0 (edT (seR r m str.toList (prTo m 0 (0+1))))):=by show Own _ _ _ _ _ _ _ _ _;rw[Nat.zero_add,prTo_zero];exact HO.out
 have Hl0:Hid ((seR r m str.toList (prTo m 0 (0+1))).length=0):=by show _=_;rw[Nat.zero_add,prTo_zero];rfl
 go_wp2_with fail
 rw[<-HW.out];clear HW HO HG;have HBs:=HB;have HCs:=HC;go_wp2;go_loopw [5,6] (fun o i wr=> ∃(v c5 g:Nat),v<=m/\i=.int .i64 v/\o=.slice (some ⟨g,0,none⟩) (seR r m str.toList (prTo m v (v+1))).length c5/\w.heap.size<g/\g<wr.heap.size/\Hid (Own wr g (g+1) 48 3 (some ⟨g,0,none⟩) (seR r m str.toList (prTo m v (v+1))).length c5 (edT (seR r m str.toList (prTo m v (v+1)))))/\Hid (From w wr)/\Hid (GC wr w.heap.size m A m c)) (fun _ i _=>m-(intOf i).toNat);case atStart=>exact⟨0,0,w.heap.size+1,Nat.zero_le _,rfl,by rw[Hl0.out],by omega,by omega,HO0,HBs,HCs⟩
 case round=>
  clear HO0 Hl0 HBs HCs HB HC e0 e1;obtain⟨v,c5,g,hv,rfl,rfl,hg1,hg2,HO,HB,HC⟩:=hrel;have HGr:=hh_ (HGw.keep HB.below);obtain⟨e0,e1⟩:=gc_ HC;by_cases hvm:v<m
  ·have i1:(v:Int)<m:=by omega
   go_wp2_with fail
   refine(IsGraph_sv HGr.out).mono ?_;rintro e w1 ⟨rfl,hb1⟩;have HB1:=hh_ (HB.keep hb1);have HC1:=hh_ (HC.keep hb1);have HO1:Hid (Own w1 g (g+1) 48 3 (some ⟨g,0,none⟩) (seR r m str.toList (prTo m v (v+1))).length c5 (edT (seR r m str.toList (prTo m v (v+1))))):=HO.keepB hb1 hg2;have hg1':g<w1.heap.size:=Nat.lt_of_lt_of_le hg2 hb1.size;clear hb1 e0 e1 HB HC HO HGr hg2;go_wp2;go_loopw [5,7] (fun o i wr=> ∃(u c5 g:Nat),v+1<=u/\u<=m/\i=.int .i64 u/\o=.slice (some ⟨g,0,none⟩) (seR r m str.toList (prTo m v u)).length c5/\w.heap.size<g/\g<wr.heap.size/\Hid (Own wr g (g+1) 48 3 (some ⟨g,0,none⟩) (seR r m str.toList (prTo m v u)).length c5 (edT (seR r m str.toList (prTo m v u))))/\Hid (From w wr)/\Hid (GC wr w.heap.size m A m c)) (fun _ i _=>m-(intOf i).toNat);case atStart=>exact⟨v+1,c5,g,nr_,by omega,by go_num,rfl,hg1,hg1',HO1,HB1,HC1⟩
   case round=>
    clear HO1 HB1 HC1 hg1' hg1;obtain⟨u,c5,g,hu1,hu2,rfl,rfl,hg1,hg2,HO,HB,HC⟩:=hrel;have HGr:=hh_ (HGw.keep HB.below);obtain⟨e0,e1⟩:=gc_ HC;by_cases hum:u<m
    ·have i2:(u:Int)<m:=by omega
     obtain⟨TT,hTT⟩: ∃TT,TT=seR r m str.toList (prTo m v u):=⟨_,rfl⟩;have hTl:TT.length<=21:=by
      have h1:=seR_len (r:=r) (m:=m) (s:=str.toList) (P:=prTo m v u);have h2:=prTo_len hm7 hvm hu1 hu2;rw[hTT];omega
     have HTT:=hh_ hTT;rw[<-hTT] at HO ⊢;obtain⟨t,ht⟩: ∃t,t=(r v).testBit u:=⟨_,rfl⟩;have Hse:Hid (seB r (v,u)= !t):=by rw[ht];exact rfl
     have KE:Hid (Calls Tryz.prog 45 #[.agg #[.int .i64 m,.slice A m c],.int .i64 v,.int .i64 u] wr fun e w'=>e=.returned (.bool t)/\Below wr.heap.size wr w'):=by rw[ht];exact l2Edge_v HGr.out hvm hum
     clear hTT ht;go_wp2_with fail
     refine KE.mono ?_;rintro e w4 ⟨rfl,hb4⟩;have HC4:=hh_ (HC.keep hb4);have k0:=HC4.c0;have k1:=HC4.c1;have klt:=HC4.lt;obtain⟨W5,hW5⟩: ∃W5,W5=w4.alloc (Obj.cells #[.bool (!t),.int .i64 v,.int .i64 u] 48):=⟨_,rfl⟩;have hb5:Below wr.heap.size wr W5:=by rw[hW5];exact bl_alloc hb4
     obtain⟨E5,hE5⟩: ∃E5,E5=w4.heap.size:=⟨_,rfl⟩;have HE5:Hid (W5.cell? ⟨E5,0,none⟩=some (.bool (!t))/\W5.cell? ⟨E5,1,none⟩=some (.int .i64 v)/\W5.cell? ⟨E5,2,none⟩=some (.int .i64 u)):=by
      rw[hW5,hE5];refine⟨?_,?_,?_⟩<;>simp[go_sem]
     have HB5:=hh_ (HB.keep hb5);have HC5:=hh_ (HC.keep hb5);have HO5:Hid (Own W5 g (g+1) 48 3 (some ⟨g,0,none⟩) TT.length c5 (edT TT)):=HO.keepB hb5 hg2;have hg5:g<W5.heap.size:=Nat.lt_of_lt_of_le hg2 hb5.size;have HW5:=hh_ hW5;have HX5:=hh_ hE5;clear hW5 hE5 hb5 hb4 KE e0 e1 HGr HO HB HC;obtain⟨b,hb⟩: ∃b,b=seP r m str.toList (v,u):=⟨_,rfl⟩;obtain⟨tb,htb⟩: ∃tb,tb=apB (!t) (m:Int) m (xr r) (v:Nat) (u:Nat):=⟨_,rfl⟩;obtain⟨X,hX⟩: ∃X,X=apX (!t) (m:Int) m (xr r) (v:Nat) (u:Nat):=⟨_,rfl⟩;have KA:Hid (Calls Tryz.prog 41 #[.agg #[.int .i64 m,.slice A m c],.agg #[.bool (!t),.int .i64 v,.int .i64 u]] W5 fun e w'=> ∃A' c',e=.returned (.tuple #[.agg #[.int .i64 m,.slice A' m c'],.bool tb])/\GA w' A' m c' X/\Below W5.heap.size W5 w'):=by
      rw[htb,hX];exact(l32Apply_v (HGw.keep HB5.below) (!t) v u).mono fun _ _ ⟨A6,c6,h1,ho6,hb6⟩=>⟨A6,c6,h1,⟨ho6.rd⟩,hb6⟩
     have KI:Hid (∀ {z:World} {A':Option Addr} {c':Nat},GA z A' m c' X->Calls Tryz.prog 17 #[.agg #[.int .i64 m,.slice A' m c'],.string str] z fun e w'=>e=.returned (.bool b)/\Below z.heap.size z w'):=by
      have hbX:b=isB (m:Int) m X str.toList:=by rw[hb,hX];show isB _ _ (apX (seB r (v,u)) _ _ _ _ _) _=_;rw[Hse.out]
      rw[hbX];exact fun {_ _ _} h=>IsIn_s (m:Int) _ m _ X str _ h (by omega)
     have Hyes:Hid (b=true->seR r m str.toList (prTo m v (u+1))=TT++ [(!t,(v:Int),(u:Int))]):=fun hh=>by
      have:=seR_step_yes (r:=r) (m:=m) (s:=str.toList) (n:=m) hu1 (hb.symm.trans hh);rw[this,<-HTT.out,Hse.out]
     have Hno:Hid (b=false->seR r m str.toList (prTo m v (u+1))=TT):=fun hh=>by
      rw[seR_step_no (r:=r) (m:=m) (s:=str.toList) (n:=m) hu1 (hb.symm.trans hh),<-HTT.out]
     clear hb htb hX;have l0:=HE5.out.1;have l1:=HE5.out.2.1;have l2:=HE5.out.2.2;have e0:=HC5.c0;have e1:=HC5.c1;have hE5l:=World.block_lt_of_cell? _ _ l0;have HE5l:=hh_ hE5l;go_wp2_with fail
     rw[<-HW5.out,<-HX5.out];clear HW5 HX5 k0 k1 klt HC4;refine KA.mono ?_;rintro e w6 ⟨A6,c6,rfl,hg6,hb6⟩;clear l0 l1 l2 e0 e1 hE5l;obtain⟨W6,hW6⟩: ∃W6,W6=w6.alloc (Obj.cells #[.int .i64 m,.slice A6 m c6] 26):=⟨_,rfl⟩;have hbz:Below w6.heap.size w6 W6:=by rw[hW6];exact br_.alloc nr_ _
     have hb56:Below W5.heap.size W5 W6:=bl_trans hb6 hbz;have HQ6:Hid (GC W6 w6.heap.size m A6 m c6):=by rw[hW6];exact GC.new _ _ _ _ _
     have HX6:Hid (GA W6 A6 m c6 X):=hg6.keep hbz;have HW6:=hh_ hW6;have HB6:=hh_ (HB5.keep hb56);have HC6:=hh_ (HC5.keep hb56);have HO6:Hid (Own W6 g (g+1) 48 3 (some ⟨g,0,none⟩) TT.length c5 (edT TT)):=HO5.keepB hb56 hg5;clear HB5 HC5 HO5;have HE6:Hid (W6.cell? ⟨E5,0,none⟩=some (.bool (!t))/\W6.cell? ⟨E5,1,none⟩=some (.int .i64 v)/\W6.cell? ⟨E5,2,none⟩=some (.int .i64 u)):=⟨up hb56 HE5.out.1 HE5l.out,up hb56 HE5.out.2.1 HE5l.out,up hb56 HE5.out.2.2 HE5l.out⟩;have hg6l:g<W6.heap.size:=Nat.lt_of_lt_of_le hg5 hb56.size;have hz56:=hb56.size;have HE6l:Hid (E5<W6.heap.size):=Nat.lt_of_lt_of_le HE5l.out hb56.size;clear hW6 hg6 hb6 hbz hb56 HE5 HE5l KA;have m0:=HQ6.c0;have m1:=HQ6.c1;go_wp2_with fail
     rw[<-HW6.out];clear HW6;refine(KI.out HX6.out).mono ?_;rintro e w7 ⟨rfl,hb7⟩;have HB7:=hh_ (HB6.keep hb7);have HC7:=hh_ (HC6.keep hb7);have HO7:Hid (Own w7 g (g+1) 48 3 (some ⟨g,0,none⟩) TT.length c5 (edT TT)):=HO6.keepB hb7 hg6l;clear HB6 HC6 HO6;have HE7:Hid (w7.cell? ⟨E5,0,none⟩=some (.bool (!t))/\w7.cell? ⟨E5,1,none⟩=some (.int .i64 v)/\w7.cell? ⟨E5,2,none⟩=some (.int .i64 u)):=⟨up hb7 HE6.out.1 HE6l.out,up hb7 HE6.out.2.1 HE6l.out,up hb7 HE6.out.2.2 HE6l.out⟩;have hg7l:g<w7.heap.size:=Nat.lt_of_lt_of_le hg6l hb7.size;have hz67:=hb7.size;clear m0 m1 HQ6 HX6 KI HE6 HE6l hb7;cases b
     ·have Hn:=hh_ (Hno.out rfl);go_wp2;go_roundw;case rel=>exact⟨u+1,c5,g,by omega,by omega,by go_num,by rw[Hn.out],hg1,hg7l,by rw[Hn.out];exact HO7,HB7,HC7⟩
      case measure=>simp[intOf]<;>omega
     ·have Hn:=hh_ (Hyes.out rfl);have l0:=HE7.out.1;have l1:=HE7.out.2.1;have l2:=HE7.out.2.2;have hzB:=HB7.below.size;go_wp2_with (first|(at_builtin;(refine wpList_pushEc w7 rfl _ _ rfl g c5 TT HO7.out hg7l (!t) (v:Int) (u:Int) rfl 1 w7.heap.size rfl rfl (by omega) ?_;intro g3 c3 w8 hO3 hg8 hg9 hf3)))
      have HO8:Hid (Own w8 g3 (g3+1) 48 3 (some ⟨g3,0,none⟩) (seR r m str.toList (prTo m v (u+1))).length c3 (edT (seR r m str.toList (prTo m v (u+1))))):=by show Own _ _ _ _ _ _ _ _ _;rw[Hn.out,List.length_append];exact hO3
      have HB8:Hid (From w w8):=⟨HB7.below.trans (hf3.below (by omega) hzB)⟩;have HC8:Hid (GC w8 w.heap.size m A m c):=HC7.keepF hf3 (.inl hg1);have hgx:=hg8;have hz8:=hf3.size;clear hO3 hf3;go_roundw;case rel=>exact⟨u+1,c3,g3,by omega,by omega,by go_num,by rw[Hn.out,List.length_append];rfl,by omega,hg9,HO8,HB8,HC8⟩
      case measure=>simp[intOf]<;>omega
    ·have hue:u=m:=by omega
     have i3:(m:Int)<=u:=by omega
     have Hr:Hid (seR r m str.toList (prTo m (v+1) (v+1+1))=seR r m str.toList (prTo m v u)):=by show _=_;rw[prTo_row,hue]
     clear hue;go_wp2;go_roundw;case rel=>exact⟨v+1,c5,g,by omega,by go_num,by rw[Hr.out],hg1,hg2,by rw[Hr.out];exact HO,HB,HC⟩
     case measure=>simp[intOf]<;>omega
  ·have hve:v=m:=by omega
   have i1:(m:Int)<=v:=by omega
   have Hs:Hid (seR r m str.toList (prTo m v (v+1))=seV r m str.toList):=by show _=_;rw[hve,prTo_end m (m+1) nr_];rfl
   rw[Hs.out] at HO ⊢;clear hve;go_wp2;go_ret;exact⟨some ⟨g,0,none⟩,c5,rfl,HO.mono (by omega) hg2,HB.below⟩
set_option maxHeartbeats 1600000
section
variable (s1:Int) (A1:Option Addr) (m1 c1:Nat) (x1:Nat->Int) (t2:ByteArray) (w:World) (B:Nat)
theorem SafeEdits_ino (h:GA w A1 m1 c1 x1) (hm:m1<=1048576) (hok:okB s1 m1 x1=false):
 Calls Tryz.prog 21 #[.agg #[.int .i64 s1,.slice A1 m1 c1],.string t2] w (seQe w []):=by
 obtain⟨W,hW⟩: ∃W,W=((w.alloc (Obj.cells #[.int .i64 s1,.slice A1 m1 c1] 26)).alloc (Obj.cells #[] 48)):=⟨_,rfl⟩;have HB:Hid (From w W):=by rw[hW];exact(From.alloc _ _).alloc_ _
 have HK:=hh_ (h.keep HB.below);have HC:Hid (GC W w.heap.size s1 A1 m1 c1):=by rw[hW];exact(GC.new _ _ _ _ _).keep (br_.alloc nr_ _)
 have hzW:W.heap.size=w.heap.size+2:=by rw[hW];simp
 have HO:Hid (Own W (w.heap.size+1) (w.heap.size+1+1) 48 3 (some ⟨w.heap.size+1,0,none⟩) 0 0 (edT [])):=by
  rw[hW];have:=ed_nil (w.alloc (Obj.cells #[.int .i64 s1,.slice A1 m1 c1] 26));have e:(w.alloc (Obj.cells #[.int .i64 s1,.slice A1 m1 c1] 26)).heap.size=w.heap.size+1:=by simp
  rw[e] at this;exact this
 have HW:=hh_ hW;have Ho:=hh_ hok;clear hW h hok;go_enter Tryz.func21,Tryz.ntmps21;obtain⟨e0,e1⟩:=gc_ HC;go_wp2_with fail
 rw[<-HW.out];clear HW;refine(IsGraph_any s1 A1 m1 c1 x1 W W.heap.size HK.rd nr_ hm).mono ?_;rintro e w1 ⟨rfl,hb1⟩;rw[Ho.out];have HO1:=hh_ (HO.keepB hb1 (by omega));have hz1:=hb1.size;clear e0 e1;obtain⟨HB,HK,HC,e0,e1⟩:=kC_ HB HK HC hb1;clear hb1;go_wp2;go_ret;exact⟨_,_,rfl,HO1.mono (by omega) (by omega),HB.below⟩
theorem SafeEdits_sno (h:GA w A1 m1 c1 x1) (hm:m1<=1048576) (hok:okB s1 m1 x1=false):
 Calls Tryz.prog 22 #[.agg #[.int .i64 s1,.slice A1 m1 c1],.string t2] w (seQe w []):=by
 obtain⟨W,hW⟩: ∃W,W=((w.alloc (Obj.cells #[.int .i64 s1,.slice A1 m1 c1] 26)).alloc (Obj.cells #[] 48)):=⟨_,rfl⟩;have HB:Hid (From w W):=by rw[hW];exact(From.alloc _ _).alloc_ _
 have HK:=hh_ (h.keep HB.below);have HC:Hid (GC W w.heap.size s1 A1 m1 c1):=by rw[hW];exact(GC.new _ _ _ _ _).keep (br_.alloc nr_ _)
 have hzW:W.heap.size=w.heap.size+2:=by rw[hW];simp
 have HO:Hid (Own W (w.heap.size+1) (w.heap.size+1+1) 48 3 (some ⟨w.heap.size+1,0,none⟩) 0 0 (edT [])):=by
  rw[hW];have:=ed_nil (w.alloc (Obj.cells #[.int .i64 s1,.slice A1 m1 c1] 26));have e:(w.alloc (Obj.cells #[.int .i64 s1,.slice A1 m1 c1] 26)).heap.size=w.heap.size+1:=by simp
  rw[e] at this;exact this
 have HW:=hh_ hW;have Ho:=hh_ hok;clear hW h hok;go_enter Tryz.func22,Tryz.ntmps22;obtain⟨e0,e1⟩:=gc_ HC;go_wp2_with fail
 rw[<-HW.out];clear HW;go_wp2;go_loopw [5,6] (fun o i wr=>o=.slice (some ⟨w.heap.size+1,0,none⟩) 0 0/\i=.int .i64 0/\wr=W) (fun _ _ _=>0);case atStart=>exact⟨rfl,rfl,by first|rfl|trivial⟩
 case round=>
  obtain⟨rfl,rfl,rfl⟩:=hrel;by_cases hsz:0<s1
  ·go_wp2_with fail
   refine(IsGraph_sany s1 A1 m1 c1 x1 wr wr.heap.size HK.rd nr_ hm).mono ?_;rintro e w1 ⟨rfl,hb1⟩;rw[Ho.out];have HO1:=hh_ (HO.keepB hb1 (by omega));have HB1:=hh_ (HB.keep hb1);have hz1:=hb1.size;clear hb1 e0 e1;go_wp2;go_ret;exact⟨_,_,rfl,HO1.mono (by omega) (by omega),HB1.below⟩
  ·have i1:s1<=0:=by omega
   go_wp2;go_ret;exact⟨_,_,rfl,HO.mono (by omega) (by omega),HB.below⟩
end
set_option maxHeartbeats 3200000
set_option maxRecDepth 100000 in
theorem ParseEdits_i (s:ByteArray) (m:Int) (w:World) (hs:s.size<=1048576) (hm:w.cell? ⟨laySplit_ren.g 1,0,none⟩=some (.int .i64 m)) (hg:laySplit_ren.g 1<w.heap.size):
 Calls Tryz.prog 24 #[.string s] w fun e w'=> ∃A' c',e=.returned (.tuple #[.slice A' (peN s) c',.bool (pdB s)])/\Own w' w.heap.size w'.heap.size 48 3 A' (peN s) c' (eds (peA s) (peV s) (peU s))/\Below w.heap.size w w':=by
 by_cases e0:s.toList= [110,111,110,101]
 ·obtain⟨hN,hB⟩:=pe_none e0;have HN:=hh_ hN;have HBo:=hh_ hB;clear hN hB hm;go_enter Tryz.func24,Tryz.ntmps24;go_wp2;go_ret2;exact⟨some ⟨w.heap.size,0,none⟩,0,by rw[HN.out,HBo.out];rfl,by rw[HN.out];exact own_newE w _ _ _,br_.alloc nr_ _⟩
 have Hyes:Hid (peOk s->peN s=(peW s).length/\pdB s=true):=pe_yes e0;have Hno:Hid (¬peOk s->peN s=0/\pdB s=false):=pe_no e0;have KS:=hh_ (split_any s m (w.alloc (Obj.cells #[] 48)) (by omega) ((World.cell?_alloc_lt w _ ⟨laySplit_ren.g 1,0,none⟩ hg).trans hm));have hcnt:=spB_count s;have hcell:=fun j=> @spB_cell s (w.alloc (Obj.cells #[] 48)) j
 have hlen:(peW s).length<=1048577:=by
  have:=Lib.countB_le ⟨#[44]⟩ (by decide) s.size s nr_;omega
 obtain⟨n,hn⟩: ∃n,n=(peW s).length:=⟨_,rfl⟩;have Hn:Hid (n=(peW s).length):=hn;rw[hcnt] at KS;rw[<-hn] at KS hcell hlen;clear hm hg hcnt hn;obtain⟨W1,hW1⟩: ∃W1,W1=(w.alloc (Obj.cells #[] 48)).alloc (.cells ((spB s).map Value.string).toArray 9):=⟨_,rfl⟩;have HO0:Hid (Own W1 w.heap.size (w.heap.size+1) 48 3 (some ⟨w.heap.size,0,none⟩) 0 0 (eds (peA s) (peV s) (peU s))):=by rw[hW1];exact((own_newE w _ _ _).alloc _).mono nr_ (by simp)
 have HB0:Hid (Below w.heap.size w W1):=by rw[hW1];exact(br_.alloc nr_ _).alloc (by simp) _
 have hq:(w.alloc (Obj.cells #[] 48)).heap.size=w.heap.size+1:=by simp
 have hq1:w.heap.size+1<W1.heap.size:=by rw[hW1];simp
 have HC:Hid (∀j,j<n->W1.cell? ⟨w.heap.size+1,j,none⟩=some (.string ((spB s).getD j ⟨#[]⟩))):=fun j hj=>by rw[hW1,<-hq];exact hcell j hj
 have KS':Hid (Calls Tryz.prog 63 #[.string s,.string ⟨#[44]⟩] (w.alloc (Obj.cells #[] 48)) fun e w'=>e=.returned (.slice (some ⟨w.heap.size+1,0,none⟩) n n)/\w'=W1):=by
  rw[hW1,<-hq];exact KS.out
 clear KS hcell hq hW1;have e1:(s.toList== [110,111,110,101])=false:=beq_eq_false_iff_ne.2 e0;go_enter Tryz.func24,Tryz.ntmps24;go_wp2_with fail
 refine KS'.out.mono ?_;rintro e w' ⟨rfl,rfl⟩;clear KS';have HW3:Hid (∀j,j<n->((spB s).getD j ⟨#[]⟩).size=((peW s).getD j []).length):=fun j hj=>by rw[<-spB_at];simp
 go_wp2;go_loopw [4,14] (fun l i wr=> ∃(k:Nat) (A':Option Addr) (c' g:Nat),k<=n/\i=.int .i64 k/\l=.slice A' k c'/\A'=some ⟨g,0,none⟩/\w.heap.size<=g/\g≠w.heap.size+1/\g<wr.heap.size/\w.heap.size+1<wr.heap.size/\Hid (∀j,j<k->((spB s).getD j ⟨#[]⟩).size=3)/\Hid (Own wr g (g+1) 48 3 (some ⟨g,0,none⟩) k c' (eds (peA s) (peV s) (peU s)))/\Hid (Below w.heap.size w wr)/\Hid (∀j,j<n->wr.cell? ⟨w.heap.size+1,j,none⟩=some (.string ((spB s).getD j ⟨#[]⟩)))) (fun _ i _=>n-(intOf i).toNat);case atStart=>exact⟨0,_,0,w.heap.size,Nat.zero_le _,rfl,rfl,rfl,nr_,by omega,by omega,hq1,(fun j hj=>absurd hj (by omega)),HO0,HB0,HC⟩
 case round=>
  clear HO0 HB0 HC;obtain⟨k,A',c',g,hk,rfl,rfl,rfl,hg1,hg2,hg3,hq2,hall,HO,HB,HC⟩:=hrel;by_cases hlt:k<n
  ·have i1:(k:Int)<n:=by omega
   have q0:=HC k hlt;have hPk:=spB_at s k;have hP3:=HW3.out k hlt;obtain⟨P,hP⟩: ∃P,P=(spB s).getD k ⟨#[]⟩:=⟨_,rfl⟩;rw[<-hP] at q0 hPk hP3;have HP:=hh_ hP;clear hP;by_cases h3:P.size=3
   ·have h3':((P.size:Int)==3)=true:=by rw[h3];rfl
    obtain⟨ha,hv,hu⟩:=pe_word hPk h3;have p0:0<P.size:=by omega
    have p1:1<P.size:=by omega
    have p2:2<P.size:=by omega
    have b1:=P[1].toNat_lt;have b2:=P[2].toNat_lt;have Hall2:Hid (∀j,j<k+1->((spB s).getD j ⟨#[]⟩).size=3):=fun j hj=>by
     by_cases hjk:j<k
     ·exact hall.out j hjk
     ·obtain rfl:j=k:=by omega
      rw[<-HP.out];exact h3
    have HX:Hid (Own ((wr.alloc (Obj.cells #[.bool ((P[0].toNat:Int)==43),.int .i64 (IntKind.i64.wrap (IntKind.i64.wrap (P[1].toNat:Int)-48)),.int .i64 (IntKind.i64.wrap (IntKind.i64.wrap (P[2].toNat:Int)-48))] 48)).drew) g (g+1) 48 3 (some ⟨g,0,none⟩) k c' (eds (peA s) (peV s) (peU s))):=(HO.alloc _).drew;have HXn:Hid (∀i,i<3->(#[.bool ((P[0].toNat:Int)==43),Value.int .i64 (IntKind.i64.wrap (IntKind.i64.wrap (P[1].toNat:Int)-48)),Value.int .i64 (IntKind.i64.wrap (IntKind.i64.wrap (P[2].toNat:Int)-48))]:Array Value)[i]? =some (eds (peA s) (peV s) (peU s) (k*3+i))):=eds_news ha (hv.trans (wrB _).symm) (hu.trans (wrB _).symm);clear ha hv hu hall HO hP3 hPk;go_wp2;go_region_law
     (first
       |(refine step_push _ (by rfl) _ _ _ (by rfl) 48 _ 3 24 Tryz.underlying27 info_edit rfl (by omega) g _ (some ⟨g,0,none⟩) k c' (eds (peA s) (peV s) (peU s)) (by rfl) HX.out (by simp;omega) wr.heap.size #[.bool ((P[0].toNat:Int)==43),.int .i64 (IntKind.i64.wrap (IntKind.i64.wrap (P[1].toNat:Int)-48)),.int .i64 (IntKind.i64.wrap (IntKind.i64.wrap (P[2].toNat:Int)-48))] 48 (0,0) 1 (heap_alloc_new wr _) (by rfl) rfl HXn.out (by simp[Value.oneCell']) (by omega) (by omega) ?_;intro g6 cap w6 hp))
    all_goals
     obtain⟨hp1,hp2,hp3,hp4⟩:=hp.caged;have hf:Fr g (g+1) wr w6:=(((Fr.refl g (g+1) wr).alloc _).drew).trans hp4;have hg6:g6=g\/wr.heap.size<=g6:=hp2.imp id (fun h=>by rw[h];show wr.heap.size<=(wr.alloc _).heap.size;simp);have hz6:=hf.size;have HO6:=hh_ hp1;have HB6:Hid (Below w.heap.size w w6):=HB.trans (hf.below hg1 HB.size);have HC6:Hid (∀j,j<n->w6.cell? ⟨w.heap.size+1,j,none⟩=some (.string ((spB s).getD j ⟨#[]⟩))):=fun j hj=>(hf.cell (p:=⟨w.heap.size+1,j,none⟩) (by show w.heap.size+1<_;omega) (by show w.heap.size+1<g\/g+1<=w.heap.size+1;omega)).trans (HC j hj)
     clear hp hp1 hp2 hp4 hf HX HXn HB HC b1 b2 q0;go_wp2;go_roundw;case rel=>exact⟨k+1,_,cap,g6,by omega,by go_num,rfl,rfl,by omega,by omega,hp3,by omega,Hall2,HO6,HB6,HC6⟩
     case measure=>simp[intOf]<;>omega
   ·have h3':((P.size:Int)==3)=false:=by rw[beq_eq_false_iff_ne];omega
    obtain⟨hN,hBo⟩:=Hno.out (peOk_len (j:=k) (by rw[<-Hn.out];exact hlt) (by rw[<-hP3];exact h3));have HN:=hh_ hN;have HBo:=hh_ hBo;clear hN hBo h3 hP3 hPk;go_wp2;go_ret2;exact⟨none,0,by rw[HN.out,HBo.out];rfl,by rw[HN.out];exact own_nilE _ _ _ _ _ _,HB⟩
  ·have i1:(n:Int)<=k:=by omega
   obtain rfl:k=n:=by omega
   have KF:=hh_ (FormatEdits_i (some ⟨g,0,none⟩) k c' (peA s) (peV s) (peU s) wr ⟨(HO.mono nr_ (show g+1<=wr.heap.size by omega)).rdE⟩ (by omega));obtain⟨F,hF⟩: ∃F,F=fmO k (peA s) (peV s) (peU s):=⟨_,rfl⟩;have h3: ∀x∈peW s,x.length=3:=by
    intro x hx;obtain⟨j,hj,e⟩:=List.mem_iff_getElem.1 hx;have hj2:j<k:=by rw[Hn.out];exact hj
    have:=hall.out j hj2;rw[HW3.out j hj2] at this;simpa [List.getD,hj,e] using this
   have Hok:Hid (F=s->peOk s):=fun e=>⟨h3,by rw[<-Hn.out,<-hF];exact e⟩
   have Hnot:Hid (F≠s-> ¬peOk s):=fun e hh=>e (by rw[hF,Hn.out];exact hh.2)
   rw[<-hF] at KF;clear h3 hF;by_cases hFs:F=s
   ·obtain⟨hN,hBo⟩:=Hyes.out (Hok.out hFs);have HN:=hh_ hN;have HBo:=hh_ hBo;clear hN hBo;subst hFs;clear Hno Hnot Hyes Hok;go_wp2_with fail
    refine KF.mono ?_;rintro e w2 ⟨rfl,hb2⟩;have HB2:Hid (Below w.heap.size w w2):=HB.trans (hb2.mono HB.size);have hz2:=hb2.size;have HO2:Hid (Own w2 w.heap.size w2.heap.size 48 3 (some ⟨g,0,none⟩) k c' (eds (peA F) (peV F) (peU F))):=(HO.keepB hb2 hg3).mono hg1 (by omega);clear hb2 HO HB HC;go_wp2;go_ret2;exact⟨some ⟨g,0,none⟩,c',by rw[HN.out,HBo.out,<-Hn.out];rfl,by rw[HN.out,<-Hn.out];exact HO2.out,HB2⟩
   ·obtain⟨hN,hBo⟩:=Hno.out (Hnot.out hFs);have HN:=hh_ hN;have HBo:=hh_ hBo;have e5:(F.toList==s.toList)=false:=beq_eq_false_iff_ne.2 (fun h=>hFs (Go.WideShapes.bytes_inj (by rw[<-ByteArray.toList_eq,<-ByteArray.toList_eq];exact h)));clear hN hBo Hno Hnot Hyes Hok;go_wp2_with fail
    refine KF.mono ?_;rintro e w2 ⟨rfl,hb2⟩;have HB2:Hid (Below w.heap.size w w2):=HB.trans (hb2.mono HB.size);clear hb2 HO HB HC;go_wp2;go_ret2;exact⟨none,0,by rw[HN.out,HBo.out];rfl,by rw[HN.out];exact own_nilE _ _ _ _ _ _,HB2⟩
end Go.Proofs.YtfabbohijhjpcaaGreatDoor
