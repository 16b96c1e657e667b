/- Lemmas. -/
import Derived.Test.YtfabbohijhjpcaaGreatDoorRbThoB
namespace Go.Proofs.YtfabbohijhjpcaaGreatDoor
open Go.RowKit
set_option maxHeartbeats 12800000
structure TwoO (z:World) (lo g h:Nat) (T:List Nat) (n c c2:Nat) (d:Nat->Bool):Prop where
 oi:Own z g (g+1) 3 1 (some ⟨g,0,none⟩) T.length c (ni T)
 ob:Own z h (h+1) 4 1 (some ⟨h,0,none⟩) n c2 (fun j=> .bool (d j))
 ne:g≠h
 lg:lo<=g/\g<z.heap.size
 lh:lo<=h/\h<z.heap.size
theorem TwoO.alloc {z:World} {lo g h n c c2:Nat} {T:List Nat} {d:Nat->Bool} (k:TwoO z lo g h T n c c2 d) (o:Obj):TwoO (z.alloc o) lo g h T n c c2 d:=
 ⟨k.oi.alloc o,k.ob.alloc o,k.ne,⟨k.lg.1,by have:=k.lg.2;simp;omega⟩,⟨k.lh.1,by have:=k.lh.2;simp;omega⟩⟩
theorem TwoO.drew {z:World} {lo g h n c c2:Nat} {T:List Nat} {d:Nat->Bool} (k:TwoO z lo g h T n c c2 d):TwoO z.drew lo g h T n c c2 d:=⟨k.oi.drew,k.ob.drew,k.ne,k.lg,k.lh⟩
theorem TwoO.keep {z z':World} {lo g h n c c2:Nat} {T:List Nat} {d:Nat->Bool} (k:TwoO z lo g h T n c c2 d) (hb:Below z.heap.size z z'):TwoO z' lo g h T n c c2 d:=
 ⟨k.oi.keepB hb k.lg.2,k.ob.keepB hb k.lh.2,k.ne,⟨k.lg.1,Nat.lt_of_lt_of_le k.lg.2 hb.size⟩,⟨k.lh.1,Nat.lt_of_lt_of_le k.lh.2 hb.size⟩⟩
theorem TwoO.new (w:World):TwoO ((w.alloc (Obj.cells #[] 3)).alloc (Obj.cells #[] 4)) w.heap.size w.heap.size (w.heap.size+1) [] 0 0 0 (fun _=>false):=by
 refine⟨?_,?_,by omega,⟨nr_,by simp;omega⟩,⟨by omega,by simp⟩⟩
 ·refine Own.alloc ?_ _;exact .inr ⟨w.heap.size,#[],rfl,nr_,Nat.lt_succ_self _,heap_alloc_new w _,nr_,by unfold maxLen;omega,rfl,fun j hj=>absurd hj (by simp)⟩
 ·have hn:=heap_alloc_new (w.alloc (Obj.cells #[] 3)) (Obj.cells #[] 4);have he:(w.alloc (Obj.cells #[] 3)).heap.size=w.heap.size+1:=by simp
  rw[he] at hn;exact .inr ⟨w.heap.size+1,#[],rfl,nr_,Nat.lt_succ_self _,hn,nr_,by unfold maxLen;omega,rfl,fun j hj=>absurd hj (by omega)⟩
section
variable {ops:Array Oper} {o:Oper} {a:Act} {K:Act->World->Prop} {Q:Exit->Act->World->Prop} {E:Prop} {lo g h n c c2:Nat} {T:List Nat} {d:Nat->Bool}
theorem step_twoI (W:World) (hgd:o.guard=none) (s y:Operand)
 (ho:o.op=.call {callee:=.builtin .append,args:= #[s,y],argTypes:= #[24,24]})
 (hT:TwoO W lo g h T n c c2 d) (hs:a.eval s=.slice (some ⟨g,0,none⟩) T.length c)
 (B cx v:Nat) (hy:a.eval y=.slice (some ⟨B,0,none⟩) 1 cx) (hB:W.heap[B]? =some (.cells #[.int .i64 (v:Int)] 3 (0,0))) (hn:T.length<=1073741824)
 (hK: ∀g' cap w',TwoO w' lo g' h (T++ [v]) n cap c2 d->Below lo W w'->Fr g (g+1) W w'->K (a.put o.dst (.slice (some ⟨g',0,none⟩) (T.length+1) cap)) w'):
 if Region.wanted o (yielded ops a.tmps)=true then Oper.wp Tryz.prog o a W K Q else E:=by
 refine step_pushI W hgd s y ho g c T hT.oi hT.lg.2 v hs B cx hB hy hn ?_;intro g' cap w' h1 h2 h3 h4;have hl:=hT.lg;have hh:=hT.lh;have hne:=hT.ne;refine hK g' cap w' ⟨by rw[List.length_append];exact h1,hT.ob.keep h4 (by omega),by omega,⟨by omega,h3⟩,⟨hh.1,Nat.lt_of_lt_of_le hh.2 h4.size⟩⟩ (h4.below hl.1 (by omega)) h4
theorem step_twoB (W:World) (hgd:o.guard=none) (s y:Operand)
 (ho:o.op=.call {callee:=.builtin .append,args:= #[s,y],argTypes:= #[40,40]})
 (hT:TwoO W lo g h T n c c2 d) (hs:a.eval s=.slice (some ⟨h,0,none⟩) n c2)
 (B cx:Nat) (v:Bool) (hy:a.eval y=.slice (some ⟨B,0,none⟩) 1 cx) (hB:W.heap[B]? =some (.cells #[.bool v] 4 (0,0))) (hn:n<=1073741824)
 (hK: ∀h' cap w',TwoO w' lo g h' T (n+1) c cap (fun j=>if j<n then d j else v)->Below lo W w'->Fr h (h+1) W w'->K (a.put o.dst (.slice (some ⟨h',0,none⟩) (n+1) cap)) w'):
 if Region.wanted o (yielded ops a.tmps)=true then Oper.wp Tryz.prog o a W K Q else E:=by
 refine step_pushB W hgd s y ho h c2 n d hT.ob hT.lh.2 v hs B cx hB hy hn ?_;intro g' cap w' h1 h2 h3 h4;have hl:=hT.lg;have hh:=hT.lh;have hne:=hT.ne;refine hK g' cap w' ⟨hT.oi.keep h4 (by omega),h1,by omega,⟨hl.1,Nat.lt_of_lt_of_le hl.2 h4.size⟩,⟨by omega,h3⟩⟩ (h4.below hh.1 (by omega)) h4
end
noncomputable def toB (sz:Int) (m:Nat) (x:Nat->Int):Bool:=okB sz m x&&(thO (rw_ x) m).isSome
theorem toB_no {sz:Int} {m:Nat} {x:Nat->Int} (h:okB sz m x=false):toB sz m x=false:=by unfold toB;rw[h];rfl
theorem toB_yes {sz:Int} {m:Nat} {x:Nat->Int} (h:okB sz m x=true):toB sz m x=(thO (rw_ x) m).isSome:=by unfold toB;rw[h];rfl
theorem thG_take {r:Nat->Nat} {left k v:Nat} {l:List Nat} (hk:k<l.length) (hv:l[k]=v):thG r left (l.take (k+1))=if thB r left v=true then some v else thG r left (l.take k):=by
 rw[List.take_succ_eq_append_getElem hk,thG_snoc,hv]
section
variable {A:Option Addr} {m c:Nat} {r:Nat->Nat} {w:World}
set_option maxRecDepth 100000 in
theorem ThresholdOrder_v (hgv:GV w A m c r):
 Calls Tryz.prog 165 #[.agg #[.int .i64 m,.slice A m c]] w fun e w'=> ∃V1 V2,e=.returned (.tuple #[V1,V2,.bool (thO r m).isSome])/\Below w.heap.size w w':=by
 have hn7:=hgv.vg.n7;have h128:=two_pow_le hn7;have hpos:=Nat.two_pow_pos m;have HV:=hh_ hgv.vg;have Hth0:Hid ((thO r m).isSome=(redL (thF r) (2^m-1)).isSome):=rfl;have hF1:1<2^m:=by
  have:=hgv.vg.n1;calc 1<2^1:=by decide
   _<=2^m:=Nat.pow_le_pow_right (by omega) this
 obtain⟨b0,o0,rfl⟩:=hgv.addr;have h:=hgv;clear hgv;have hbl:=h.bl;obtain⟨W,hW⟩: ∃W,W=(w.alloc (Obj.cells #[.int .i64 m,.slice (some ⟨b0,o0,none⟩) m c] 26)):=⟨_,rfl⟩;have HB:Hid (From w W):=by rw[hW];exact From.alloc _ _
 have HG:Hid (GBox W w.heap.size (some ⟨b0,o0,none⟩) m c r):=by rw[hW];exact h.box
 have HW:=hh_ hW;clear hW h;obtain⟨e0,e1⟩:=gx_ HG;have hqW:=HG.lt;go_enter Tryz.func165,Tryz.ntmps165;go_wp2_with fail
 rw[<-HW.out];refine(IsGraph_v HG.gv).mono ?_;rintro e w1 ⟨rfl,hb1⟩;clear HW;clear e0 e1;obtain⟨HB,HG,e0,e1⟩:=kG_ HB HG hb1;clear hb1;obtain⟨W3,hW3⟩: ∃W3,W3=((w1.alloc (Obj.cells #[] 3)).alloc (Obj.cells #[] 4)):=⟨_,rfl⟩;have hb3:Below w1.heap.size w1 W3:=by rw[hW3];exact(br_.alloc nr_ _).alloc (by simp) _
 have HT3:Hid (TwoO W3 w1.heap.size w1.heap.size (w1.heap.size+1) [] 0 0 0 (fun _=>false)):=by rw[hW3];exact TwoO.new w1
 have hqlo:w.heap.size<w1.heap.size:=HG.lt;have HR3:Hid (From w1 W3):=⟨hb3⟩;have HG1:=HG;have HB1:=HB;have HW3:=hh_ hW3;clear hW3;go_wp2_with fail
 rw[<-HW3.out];clear HW3;clear e0 e1;replace HB:=hh_ (HB.keep hb3);replace HG:=hh_ (HG.keep hb3);obtain⟨e0,e1⟩:=gx_ HG;clear hb3;refine(all_v HG.gv).mono ?_;rintro e w4 ⟨rfl,hb4⟩;have HT4:Hid (TwoO w4 w1.heap.size w1.heap.size (w1.heap.size+1) [] ([]:List Nat).length 0 0 (fun _=>false)):=HT3.keep hb4;have HR4:Hid (From w1 w4):=HR3.keep hb4;clear HT3 HR3 hb4 e0 e1 HG HB;go_wp2;go_loopw [5,6,7] (fun a b l wr=> ∃(left g h c5 c6:Nat) (T:List Nat) (d:Nat->Bool),T.length+left<2^m/\(left=0->0<T.length)/\a=.slice (some ⟨g,0,none⟩) T.length c5/\b=.slice (some ⟨h,0,none⟩) T.length c6/\l=.int .i64 left/\Hid (TwoO wr w1.heap.size g h T T.length c5 c6 d)/\Hid (From w1 wr)/\Hid ((thO r m).isSome=(redL (thF r) left).isSome)) (fun _ _ l _=>(intOf l).toNat);case atStart=>exact⟨2^m-1,_,_,0,0,[],_,by simp;omega,by omega,rfl,rfl,rfl,HT4,HR4,Hth0⟩
 case round=>
  obtain⟨left,g,h,c5,c6,T,d,hnl,hpT,rfl,rfl,rfl,HT,HR,Hth⟩:=hrel;clear HT4 HR4 Hth0;have HG:=hh_ (HG1.keep HR.below);have HB:=hh_ (HB1.up HR.out);have hlor:=HR.below.size;obtain⟨e0,e1⟩:=gx_ HG;by_cases hl0:left=0
  ·subst hl0;have hT0:=hpT rfl;have Hs:Hid ((thO r m).isSome=true):=by show _=_;rw[Hth.out,redL_zero];rfl
   have KB:=hh_ (Reverse_b h c6 T.length h (h+1) d wr HT.ob (by omega) hT0);have hln:T≠ []:=List.length_pos_iff.1 hT0;clear Hth hpT;go_wp2_with fail
   refine KB.mono ?_;rintro e w5 ⟨rfl,hf5⟩;have HL5:Hid (LN w5 (some ⟨g,0,none⟩) c5 T):=by
    have:=HT.oi.keep hf5 (by have:=HT.ne;omega);exact⟨(this.mono (Nat.zero_le _) (Nat.le_trans HT.lg.2 hf5.size)).rd⟩
   have HB5:Hid (Below w.heap.size w w5):=HB.below.trans (hf5.below (by have:=HT.lh.1;omega) (by have:=HT.lh.2;omega));have KR:=hh_ (reversed_i (some ⟨g,0,none⟩) c5 T w5 HL5.out hln (by omega));clear KB hf5 hln e0 e1;go_wp2_with fail
   refine KR.mono ?_;rintro e w6 ⟨A6,c7,rfl,_,hb6⟩;have HB6:Hid (Below w.heap.size w w6):=HB5.trans (hb6.mono HB5.size);clear hb6 KR;go_wp2;go_ret3;exact⟨_,_,by rw[Hs.out];rfl,HB6⟩
  ·have i1:((left:Int) !=0)=true:=by simp;omega
   have Hl0:=hh_ hl0;have hll:left<128:=by omega
   have Hmem:Hid (∀j (hj:j<(listN left).length),(listN left)[j]<m/\left.testBit (listN left)[j]=true):=fun j hj=>⟨bit_lt (by omega) (listN_at hj).2,(listN_at hj).2⟩
   clear hl0 hpT;go_wp2_with fail
   refine(ListOf_v left hll wr).mono ?_;rintro e w5 ⟨Al,cl,rfl,ho5,hb5⟩;have HL5:Hid (LN w5 Al cl (listN left)):=ho5.ln;have HTq:Hid (TwoO w5 w1.heap.size g h T T.length c5 c6 d):=HT.keep hb5;have HRq:Hid (From w1 w5):=HR.keep hb5;clear HT HR;clear e0 e1;replace HB:=hh_ (HB.keep hb5);replace HG:=hh_ (HG.keep hb5);clear hb5 ho5;obtain⟨e0,e1⟩:=gx_ HG;have hl7:=listN_len left;have Hts:Hid ((optI (thG r left ((listN left).take 0)))= -1):=rfl;have Htf:Hid (thG r left ((listN left).take (listN left).length)=thF r left):=by show _=_;rw[List.take_length];exact thG_K 7
   have Htn:Hid (∀k v (hk:k<(listN left).length),(listN left)[k]=v->thG r left ((listN left).take (k+1))=if thB r left v=true then some v else thG r left ((listN left).take k)):=fun k v hk hv=>thG_take hk hv
   obtain⟨D,hD⟩: ∃D,D=listN left:=⟨_,rfl⟩;rw[<-hD] at Hmem HL5 hl7 Hts Htf Htn ⊢;clear hD;go_wp2;go_loopw [8,24] (fun tk i wz=> ∃k:Nat,k<=D.length/\i=.int .i64 k/\tk=.int .i64 (optI (thG r left (D.take k)))/\wz=w5) (fun _ i _=>D.length-(intOf i).toNat);case atStart=>exact⟨0,Nat.zero_le _,rfl,by rw[Hts.out],rfl⟩
   case round=>
    obtain⟨k,hk,rfl,rfl,rfl⟩:=hrel;by_cases hkl:k<D.length
    ·have i2:(k:Int)<D.length:=by omega
     obtain⟨bl,ol,rfl⟩:=HL5.addr (by omega);have p1:=HL5.at hkl;have hmm:=Hmem.out k hkl;have Hn:=hh_ (Htn.out k _ hkl rfl);obtain⟨v,hv⟩: ∃v,v=D[k]:=⟨_,rfl⟩;rw[<-hv] at p1 hmm Hn;obtain⟨hvm,hvb⟩:=hmm;clear hv;have p0:=HG.gv.row hvm;have hr:=HV.lt128 hvm;have hthB:thB r left v=(r v&&&left==0||(r v&&&left)|||2^v==left):=rfl;obtain⟨tk,htk⟩: ∃tk,tk=optI (thG r left (D.take k)):=⟨_,rfl⟩;have Hno:Hid (thB r left v=false->optI (thG r left (D.take (k+1)))=tk):=fun h=>by rw[htk,Hn.out,h];rfl
     have Hyes:Hid (thB r left v=true->optI (thG r left (D.take (k+1)))=(v:Int)):=fun h=>by rw[Hn.out,h];rfl
     rw[<-htk];obtain⟨x,hx⟩: ∃x,x=r v:=⟨_,rfl⟩;rw[<-hx] at p0 hr hthB;have hand:x&&&left<128:=Nat.lt_of_le_of_lt Nat.and_le_left hr;have E2:=i64_and_nat x left (by omega) (by omega);obtain⟨n0,hn0⟩: ∃n0,n0=x&&&left:=⟨_,rfl⟩;rw[<-hn0] at E2 hand hthB;have hv7:v<7:=by omega
     have h2v:=two_pow_le (n:=v) (by omega);obtain⟨z,hz⟩: ∃z,z=2^v:=⟨_,rfl⟩;have pv:IntKind.i64.wrap ((2:Int)^v)=(z:Int):=by rw[pow_shl v (by omega),hz];simp
     rw[<-hz] at hthB h2v;have E3:=i64_or_nat n0 z (by omega) (by omega);obtain⟨y,hy⟩: ∃y,y=n0|||z:=⟨_,rfl⟩;rw[<-hy] at E3 hthB;clear hx htk hn0 hz hy hvb Hn;by_cases h1:n0=0
     ·have Hs:=hh_ (Hyes.out (by rw[hthB,h1];rfl));have d1:((n0:Int)==0)=true:=by simp;omega
      clear h1 hthB;go_wp2;go_roundw;case rel=>exact⟨k+1,by omega,by go_num,by rw[Hs.out],by first|rfl|trivial⟩
      case measure=>simp[intOf]<;>omega
     ·have d1:((n0:Int)==0)=false:=by simp;omega
      by_cases h2:y=left
      ·have Hs:=hh_ (Hyes.out (by rw[hthB,h2];simp));have d2:((y:Int)==(left:Int))=true:=by simp;omega
       clear h1 h2 hthB;go_wp2;go_roundw;case rel=>exact⟨k+1,by omega,by go_num,by rw[Hs.out],by first|rfl|trivial⟩
       case measure=>simp[intOf]<;>omega
      ·have Hs:=hh_ (Hno.out (by rw[hthB];simp[h1,h2]));have d2:((y:Int)==(left:Int))=false:=by simp;omega
       clear h1 h2 hthB;go_wp2;go_roundw;case rel=>exact⟨k+1,by omega,by go_num,by rw[Hs.out],by first|rfl|trivial⟩
       case measure=>simp[intOf]<;>omega
    ·obtain rfl:k=D.length:=by omega
     rw[Htf.out];have Htb:Hid (∀v,thF r left=some v->v<7/\left.testBit v=true):=fun v h=>thT_bit h
     clear hkl hk Htn Hts Htf;cases htF:thF r left with
     |none=>
      have Hs:Hid ((thO r m).isSome=false):=by show _=_;rw[Hth.out,redL_none Hl0.out htF];rfl
      have hq:optI none= -1:=rfl;rw[hq];clear htF hq;go_wp2;go_ret3;exact⟨_,_,by rw[Hs.out];rfl,HB.below⟩
     |some v=>
      obtain⟨hv7,hvb⟩:=Htb.out v htF;have hvm:v<m:=bit_lt (by omega) hvb;have hq:optI (some v)=(v:Int):=rfl;rw[hq];have Hth2:Hid ((thO r m).isSome=(redL (thF r) (left^^^2^v)).isSome):=by
       show _=_;rw[Hth.out,redL_some hvb htF];cases redL (thF r) (left^^^2^v)<;>rfl
      have hxl:=xor_bit_lt hvb;have hxs:=(xor_bit hvb).1;have h2v:=two_pow_le (n:=v) (by omega);obtain⟨z,hz⟩: ∃z,z=2^v:=⟨_,rfl⟩;have pv:IntKind.i64.wrap ((2:Int)^v)=(z:Int):=by rw[pow_shl v (by omega),hz];simp
      have E4:=i64_andNot_nat left z (by omega) (by rw[hz];omega);rw[hz,hxs,<-hz] at E4;rw[<-hz] at Hth2 hxl h2v;obtain⟨left2,hl2⟩: ∃l2,l2=left^^^z:=⟨_,rfl⟩;rw[<-hl2] at E4 Hth2 hxl;have p0:=HG.gv.row hvm;have hr:=HV.lt128 hvm;obtain⟨x,hx⟩: ∃x,x=r v:=⟨_,rfl⟩;rw[<-hx] at p0 hr;have hand:x&&&left<128:=Nat.lt_of_le_of_lt Nat.and_le_left hr;have E2:=i64_and_nat x left (by omega) (by omega);obtain⟨n0,hn0⟩: ∃n0,n0=x&&&left:=⟨_,rfl⟩;rw[<-hn0] at E2 hand;obtain⟨t,ht⟩: ∃t,t=((n0:Int) !=0):=⟨_,rfl⟩;have d1:=ht.symm;have HT:Hid (TwoO wr w1.heap.size g h T T.length c5 c6 d):=HTq.out;have HR:Hid (From w1 wr):=HRq.out;have hlor:=HR.below.size;have hgl:=HT.lg.2;have hhl:=HT.lh.2;have i3:(v:Int)<m:=by omega
      have i4:(0:Int)<=v:=by omega
      have i5:((v:Int)<0)=False:=by simp
      clear hz hl2 hx hn0 ht htF hq hvb hxs;have ZI1:Hid (Below w1.heap.size wr ((wr.alloc (Obj.cells #[.int .i64 (v:Int)] 3)).drew)):=(br_.alloc hlor _).drew;have TI1:Hid (TwoO ((wr.alloc (Obj.cells #[.int .i64 (v:Int)] 3)).drew) w1.heap.size g h T T.length c5 c6 d):=(HT.alloc _).drew;have ZB1:Hid (Below w1.heap.size wr ((wr.alloc (Obj.cells #[.bool t] 4)).drew)):=(br_.alloc hlor _).drew;have TB1:Hid (TwoO ((wr.alloc (Obj.cells #[.bool t] 4)).drew) w1.heap.size g h T T.length c5 c6 d):=(HT.alloc _).drew;have ZI2:Hid (Below w1.heap.size wr (((wr.alloc (Obj.cells #[.int .i64 (v:Int)] 3)).alloc (Obj.cells #[.bool t] 4)).drew)):=((br_.alloc hlor _).alloc (by simp;omega) _).drew;have TI2:Hid (TwoO (((wr.alloc (Obj.cells #[.int .i64 (v:Int)] 3)).alloc (Obj.cells #[.bool t] 4)).drew) w1.heap.size g h T T.length c5 c6 d):=((HT.alloc _).alloc _).drew;have ZB2:Hid (Below w1.heap.size wr (((wr.alloc (Obj.cells #[.bool t] 4)).alloc (Obj.cells #[.int .i64 (v:Int)] 3)).drew)):=((br_.alloc hlor _).alloc (by simp;omega) _).drew
      have TB2:Hid (TwoO (((wr.alloc (Obj.cells #[.bool t] 4)).alloc (Obj.cells #[.int .i64 (v:Int)] 3)).drew) w1.heap.size g h T T.length c5 c6 d):=((HT.alloc _).alloc _).drew;have BI1:Hid (((wr.alloc (Obj.cells #[.int .i64 (v:Int)] 3)).drew).heap[wr.heap.size]? =some (.cells #[.int .i64 (v:Int)] 3 (0,0))/\wr.heap.size<((wr.alloc (Obj.cells #[.int .i64 (v:Int)] 3)).drew).heap.size):=⟨heap_alloc_new wr _,by show _<(wr.alloc _).heap.size;simp⟩;have BI2:Hid ((((wr.alloc (Obj.cells #[.int .i64 (v:Int)] 3)).alloc (Obj.cells #[.bool t] 4)).drew).heap[wr.heap.size]? =some (.cells #[.int .i64 (v:Int)] 3 (0,0))/\wr.heap.size<(((wr.alloc (Obj.cells #[.int .i64 (v:Int)] 3)).alloc (Obj.cells #[.bool t] 4)).drew).heap.size):=⟨(Below.heap_alloc (wr.alloc (Obj.cells #[.int .i64 (v:Int)] 3)) _ _ (by simp)).trans (heap_alloc_new wr _),by show _<((wr.alloc _).alloc _).heap.size;simp;omega⟩
      have BB3:Hid ((((wr.alloc (Obj.cells #[.int .i64 (v:Int)] 3)).alloc (Obj.cells #[.bool t] 4)).drew).heap[wr.heap.size+1]? =some (.cells #[.bool t] 4 (0,0))/\wr.heap.size+1<(((wr.alloc (Obj.cells #[.int .i64 (v:Int)] 3)).alloc (Obj.cells #[.bool t] 4)).drew).heap.size):=by
       have hn:=heap_alloc_new (wr.alloc (Obj.cells #[.int .i64 (v:Int)] 3)) (Obj.cells #[.bool t] 4);have he:(wr.alloc (Obj.cells #[.int .i64 (v:Int)] 3)).heap.size=wr.heap.size+1:=by simp
       rw[he] at hn;exact⟨hn,by show _<((wr.alloc _).alloc _).heap.size;simp⟩
      have BB1:Hid (((wr.alloc (Obj.cells #[.bool t] 4)).drew).heap[wr.heap.size]? =some (.cells #[.bool t] 4 (0,0))/\wr.heap.size<((wr.alloc (Obj.cells #[.bool t] 4)).drew).heap.size):=⟨heap_alloc_new wr _,by show _<(wr.alloc _).heap.size;simp⟩;have BB2:Hid ((((wr.alloc (Obj.cells #[.bool t] 4)).alloc (Obj.cells #[.int .i64 (v:Int)] 3)).drew).heap[wr.heap.size]? =some (.cells #[.bool t] 4 (0,0))/\wr.heap.size<(((wr.alloc (Obj.cells #[.bool t] 4)).alloc (Obj.cells #[.int .i64 (v:Int)] 3)).drew).heap.size):=⟨(Below.heap_alloc (wr.alloc (Obj.cells #[.bool t] 4)) _ _ (by simp)).trans (heap_alloc_new wr _),by show _<((wr.alloc _).alloc _).heap.size;simp;omega⟩;have BI3:Hid ((((wr.alloc (Obj.cells #[.bool t] 4)).alloc (Obj.cells #[.int .i64 (v:Int)] 3)).drew).heap[wr.heap.size+1]? =some (.cells #[.int .i64 (v:Int)] 3 (0,0))/\wr.heap.size+1<(((wr.alloc (Obj.cells #[.bool t] 4)).alloc (Obj.cells #[.int .i64 (v:Int)] 3)).drew).heap.size):=by
       have hn:=heap_alloc_new (wr.alloc (Obj.cells #[.bool t] 4)) (Obj.cells #[.int .i64 (v:Int)] 3);have he:(wr.alloc (Obj.cells #[.bool t] 4)).heap.size=wr.heap.size+1:=by simp
       rw[he] at hn;exact⟨hn,by show _<((wr.alloc _).alloc _).heap.size;simp⟩
      have HSC:Hid (∀z:World,Below w1.heap.size wr z->(Below w1.heap.size wr z/\z.cell? ⟨w.heap.size,1,none⟩=some (.slice (some ⟨b0,o0,none⟩) m c)/\z.cell? ⟨b0,o0+v,none⟩=some (.int .i64 x))):=fun z hz=>⟨hz,up hz e1 hqlo,up hz p0 (by omega)⟩
      have HZ0:Hid (Below w1.heap.size wr wr.drew):=br_.drew;go_wp2;go_region_held3 (fun z=>Below w1.heap.size wr z/\z.cell? ⟨w.heap.size,1,none⟩=some (.slice (some ⟨b0,o0,none⟩) m c)/\z.cell? ⟨b0,o0+v,none⟩=some (.int .i64 x))
       (first|exact HSC.out _ HZ0.out|exact HSC.out _ ZI1.out|exact HSC.out _ ZB1.out|exact HSC.out _ ZI2.out|exact HSC.out _ ZB2.out|exact HSC.out _ hzB|exact HSC.out _ (hzA.alloc hloA _)|exact HSC.out _ hzA|fail)
       (first
         |((refine step_twoI _ (by rfl) _ _ (by rfl) TI1.out (by rfl) (wr.heap.size) 1 v (by rfl) BI1.out.1 (by omega) ?_;intro gA kA wA hTA hbA hFA;have hzA:=ZI1.trans hbA;have hloA:=(hzA.size);replace hloA:=Nat.le_trans hlor hloA))
         |((refine step_twoI _ (by rfl) _ _ (by rfl) TI2.out (by rfl) (wr.heap.size) 1 v (by rfl) BI2.out.1 (by omega) ?_;intro gA kA wA hTA hbA hFA;have hzA:=ZI2.trans hbA;have hloA:=(hzA.size);replace hloA:=Nat.le_trans hlor hloA;have hPA:=(hFA.block (wr.heap.size+1) BB3.out.2 (by omega)).trans BB3.out.1))
         |((refine step_twoI _ (by rfl) _ _ (by rfl) TB2.out (by rfl) (wr.heap.size+1) 1 v (by rfl) BI3.out.1 (by omega) ?_;intro gA kA wA hTA hbA hFA;have hzA:=ZB2.trans hbA;have hloA:=(hzA.size);replace hloA:=Nat.le_trans hlor hloA;have hPA:=(hFA.block (wr.heap.size) BB2.out.2 (by omega)).trans BB2.out.1))
         |((refine step_twoI _ (by rfl) _ _ (by rfl) (hTA.alloc _) (by rfl) (wA.heap.size) 1 v (by rfl) (heap_alloc_new wA _) (by first|omega|(rw[List.length_append];omega)) ?_;intro gB kB wB hTB hbB hFB;have hzB:=(hzA.alloc hloA _).trans hbB))
         |((refine step_twoI _ (by rfl) _ _ (by rfl) hTA (by rfl) (wr.heap.size) 1 v (by rfl) hPA (by first|omega|(rw[List.length_append];omega)) ?_;intro gB kB wB hTB hbB hFB;have hzB:=hzA.trans hbB))
         |((refine step_twoI _ (by rfl) _ _ (by rfl) hTA (by rfl) ((wr.heap.size+1)) 1 v (by rfl) hPA (by first|omega|(rw[List.length_append];omega)) ?_;intro gB kB wB hTB hbB hFB;have hzB:=hzA.trans hbB))
         |((refine step_twoB _ (by rfl) _ _ (by rfl) TB1.out (by rfl) (wr.heap.size) 1 t (by rfl) BB1.out.1 (by omega) ?_;intro gA kA wA hTA hbA hFA;have hzA:=ZB1.trans hbA;have hloA:=(hzA.size);replace hloA:=Nat.le_trans hlor hloA))
         |((refine step_twoB _ (by rfl) _ _ (by rfl) TB2.out (by rfl) (wr.heap.size) 1 t (by rfl) BB2.out.1 (by omega) ?_;intro gA kA wA hTA hbA hFA;have hzA:=ZB2.trans hbA;have hloA:=(hzA.size);replace hloA:=Nat.le_trans hlor hloA;have hPA:=(hFA.block (wr.heap.size+1) BI3.out.2 (by omega)).trans BI3.out.1))
         |((refine step_twoB _ (by rfl) _ _ (by rfl) TI2.out (by rfl) (wr.heap.size+1) 1 t (by rfl) BB3.out.1 (by omega) ?_;intro gA kA wA hTA hbA hFA;have hzA:=ZI2.trans hbA;have hloA:=(hzA.size);replace hloA:=Nat.le_trans hlor hloA;have hPA:=(hFA.block (wr.heap.size) BI2.out.2 (by omega)).trans BI2.out.1))
         |((refine step_twoB _ (by rfl) _ _ (by rfl) (hTA.alloc _) (by rfl) (wA.heap.size) 1 t (by rfl) (heap_alloc_new wA _) (by first|omega|(rw[List.length_append];omega)) ?_;intro gB kB wB hTB hbB hFB;have hzB:=(hzA.alloc hloA _).trans hbB))
         |((refine step_twoB _ (by rfl) _ _ (by rfl) hTA (by rfl) (wr.heap.size) 1 t (by rfl) hPA (by first|omega|(rw[List.length_append];omega)) ?_;intro gB kB wB hTB hbB hFB;have hzB:=hzA.trans hbB))
         |((refine step_twoB _ (by rfl) _ _ (by rfl) hTA (by rfl) ((wr.heap.size+1)) 1 t (by rfl) hPA (by first|omega|(rw[List.length_append];omega)) ?_;intro gB kB wB hTB hbB hFB;have hzB:=hzA.trans hbB))
         |fail)
      all_goals
       have hla:(T++ [v]).length=T.length+1:=by rw[List.length_append];rfl
       rw[<-hla] at hTB;have HTn:=hh_ hTB;have HRn:Hid (From w1 wB):=⟨HR.below.trans hzB⟩;clear hTA hbA hFA hzA hloA hTB hbB hFB hzB hla e0 e1 p0;try clear hPA
       go_wp2;go_roundw;case rel=>exact⟨left2,_,_,_,_,T++ [v],_,by rw[List.length_append];simp;omega,by simp,by rw[List.length_append];rfl,by rw[List.length_append];rfl,by first|rfl|go_num,HTn,HRn,Hth2⟩
       case measure=>simp[intOf]<;>omega
end
section
variable (sz:Int) (A:Option Addr) (m c:Nat) (x:Nat->Int) (w:World)
theorem ThresholdOrder_no (h:GA w A m c x) (hm:m<=1048576) (hok:okB sz m x=false):
 Calls Tryz.prog 165 #[.agg #[.int .i64 sz,.slice A m c]] w fun e w'=> ∃V1 V2,e=.returned (.tuple #[V1,V2,.bool (none:Option (List Nat)).isSome])/\Below w.heap.size w w':=by
 obtain⟨W,hW,HB,HK,HC⟩:=gaW sz h;have HW:=hh_ hW;have KF:Hid (Calls Tryz.prog 36 #[.agg #[.int .i64 sz,.slice A m c]] W fun e w'=>e=.returned (.bool false)/\Below W.heap.size W w'):=by
  have:=IsGraph_any sz A m c x W W.heap.size HK.rd nr_ hm;rwa [hok] at this
 clear hW h hok;go_enter Tryz.func165,Tryz.ntmps165;obtain⟨e0,e1⟩:=gc_ HC;go_wp2_with fail
 rw[<-HW.out];refine(KF.out).mono ?_;rintro e w1 ⟨rfl,hb1⟩;clear HW;clear e0 e1;obtain⟨HB,HK,HC,e0,e1⟩:=kC_ HB HK HC hb1;clear hb1;clear KF;go_wp2;go_ret3;exact⟨_,_,rfl,HB.below⟩
set_option maxRecDepth 100000 in
theorem IsThreshold_i (h:GA w A m c x) (hm:m<=1048576):
 Calls Tryz.prog 103 #[.agg #[.int .i64 sz,.slice A m c]] w fun e w'=>e=.returned (.bool (toB sz m x))/\Below w.heap.size w w':=by
 obtain⟨W,hW,HB,HK,HC⟩:=gaW sz h;have HW:=hh_ hW;clear hW h;go_enter Tryz.func103,Tryz.ntmps103;cases ho:okB sz m x
 ·have Hn:Hid (toB sz m x=false):=toB_no ho;have KF:=hh_ (ThresholdOrder_no sz A m c x W HK hm ho);clear ho;obtain⟨e0,e1⟩:=gc_ HC;go_wp2_with fail
  rw[<-HW.out];refine(KF.out).mono ?_;rintro e w1 ⟨V1,V2,rfl,hb1⟩;clear HW;clear e0 e1;obtain⟨HB,HK,HC,e0,e1⟩:=kC_ HB HK HC hb1;clear hb1;clear KF;go_wp2;go_ret;exact⟨ret_bool Hn.symm,HB.below⟩
 obtain⟨_,es,_,_⟩:=okB_ok' ho;subst es;have Hn:Hid (toB (m:Int) m x=(thO (rw_ x) m).isSome):=toB_yes ho;have HG:Hid (GBox W w.heap.size A m c (rw_ x)):=⟨HK.gv ho,HC.c0,HC.c1,HC.lt⟩;have KF:=hh_ (ThresholdOrder_v HG.gv);obtain⟨o,ho2⟩: ∃o,o=thO (rw_ x) m:=⟨_,rfl⟩;rw[<-ho2] at Hn KF;clear ho ho2 HC HK;cases o
 ·skip;obtain⟨e0,e1⟩:=gx_ HG;go_wp2_with fail
  rw[<-HW.out];refine(KF.out).mono ?_;rintro e w2 ⟨V1,V2,rfl,hb2⟩;clear HW;clear e0 e1;obtain⟨HB,HG,e0,e1⟩:=kG_ HB HG hb2;clear hb2;clear KF;go_wp2;go_ret;exact⟨ret_bool Hn.symm,HB.below⟩
 ·skip;obtain⟨e0,e1⟩:=gx_ HG;go_wp2_with fail
  rw[<-HW.out];refine(KF.out).mono ?_;rintro e w3 ⟨V1,V2,rfl,hb3⟩;clear HW;clear e0 e1;obtain⟨HB,HG,e0,e1⟩:=kG_ HB HG hb3;clear hb3;clear KF;go_wp2;go_ret;exact⟨ret_bool Hn.symm,HB.below⟩
end
end Go.Proofs.YtfabbohijhjpcaaGreatDoor
