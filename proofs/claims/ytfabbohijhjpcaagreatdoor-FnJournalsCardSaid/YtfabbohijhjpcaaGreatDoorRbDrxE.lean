/- Lemmas. -/
import Derived.Test.YtfabbohijhjpcaaGreatDoorRbDrwM
namespace Go.Proofs.YtfabbohijhjpcaaGreatDoor
open Go.RowKit
set_option maxHeartbeats 6400000
theorem wpList_pushEg (W:World) {ops:Array Oper} {rest:List Oper} {o:Oper} {a:Act} {Q:Exit->Act->World->Prop} (hgd:o.guard=none) (s y:Operand)
 (ho:o.op=.call {callee:=.builtin .append,args:= #[s,y],argTypes:= #[27,27]})
 (g c:Nat) (T:List (Bool×Int×Int)) (h:Own W g (g+1) 48 3 (some ⟨g,0,none⟩) T.length c (edT T)) (hg:g<W.heap.size) (p:Bool) (q r:Int) (hs:a.eval s=.slice (some ⟨g,0,none⟩) T.length c) (cx H:Nat) (hH:W.heap.size=H) (hy:a.eval y=.slice (some ⟨H,0,none⟩) 1 cx)
 (hn:T.length<=1073741824)
 (hK: ∀g' cap w',Own w' g' (g'+1) 48 3 (some ⟨g',0,none⟩) (T.length+1) cap (edT (T++ [(p,q,r)]))->(g'=g\/W.heap.size<g')->g'<w'.heap.size->Fr g (g+1) W w'->wpList Tryz.prog ops Q rest (a.put o.dst (.slice (some ⟨g',0,none⟩) (T.length+1) cap)) w'):
 wpList Tryz.prog ops Q (o::rest) a (W.alloc (Obj.cells #[.bool p,.int .i64 q,.int .i64 r] 48)):=by
 subst hH;have ha:=h.alloc (Obj.cells #[.bool p,.int .i64 q,.int .i64 r] 48);refine wpList_push (W.alloc (Obj.cells #[.bool p,.int .i64 q,.int .i64 r] 48)) hgd s y 27 ho 48 _ 3 24 Tryz.underlying27 info_edit rfl (by omega) g (g+1) (some ⟨g,0,none⟩) T.length c (edT (T++ [(p,q,r)])) hs
  (ha.congr (fun j hj=>(edT_left hj).symm)) (by simp;omega) W.heap.size #[.bool p,.int .i64 q,.int .i64 r] 48 (0,0) cx (heap_alloc_new W _) hy rfl edT_news (by simp[Value.oneCell']) hn (by omega) ?_
 intro g' cap w' hp;obtain⟨h1,h2,h3,h4⟩:=hp.caged;exact hK g' cap w' h1 (h2.imp id (fun h=>by rw[h];simp)) h3 (((Fr.refl g (g+1) W).alloc _).trans h4)
section
variable {w wr z:World} {q nb cb m d lo hi Q g c:Nat} {A B:Option Addr} {sz:Int} {x:Nat->Int} {T:List (Bool×Int×Int)}
structure DE (w wr:World) (q:Nat) (A:Option Addr) (nb cb:Nat) (sz:Int) (B:Option Addr) (m d:Nat) (x:Nat->Int) (lo hi Q g c:Nat) (T:List (Bool×Int×Int)):Prop where
 cu:Cu wr q A nb cb
 fr:Fr q (q+1) w wr
 l1:q<w.heap.size
 gb:GC wr w.heap.size sz B m d
 o:Own wr lo hi 3 1 B m d (fun j=> .int .i64 (x j))
 lo1:q+1<=lo
 hi1:hi<=w.heap.size
 t:Own wr g (g+1) 48 3 (some ⟨g,0,none⟩) T.length c (edT T)
 g1:w.heap.size<g
 g2:g<wr.heap.size
 gQ:g<Q\/Q<g
 Q1:w.heap.size<Q
 h: ∃B2 d2 l2 h2,∃y:Nat->Int,GC wr Q sz B2 m d2/\Own wr l2 h2 3 1 B2 m d2 (fun j=> .int .i64 (y j))/\w.heap.size<l2/\h2<=wr.heap.size/\(g+1<=l2\/h2<=g)/\(okB sz m x=true->okB sz m y=true)
theorem DE.size (h:DE w wr q A nb cb sz B m d x lo hi Q g c T):w.heap.size<wr.heap.size:=h.gb.lt
theorem DE.keep (h:DE w wr q A nb cb sz B m d x lo hi Q g c T) (hb:Below wr.heap.size wr z):DE w z q A nb cb sz B m d x lo hi Q g c T:=by
 obtain⟨B2,d2,l2,h2,y,k1,k2,k3,k4,k5,k6⟩:=h.h;have e1:=h.size;have e2:=h.hi1;have e3:=h.g2;have e4:=hb.size;exact⟨h.cu.keep hb,h.fr.trans (Fr.of_below hb),h.l1,h.gb.keep hb,h.o.keepB hb (by omega),h.lo1,e2,h.t.keepB hb (by omega),h.g1,by omega,h.gQ,h.Q1,B2,d2,l2,h2,y,k1.keep hb,k2.keepB hb k4,k3,by omega,k5,k6⟩
theorem DE.draw (h:DE w wr q A nb cb sz B m d x lo hi Q g c T) (hd:Dr wr q A nb cb z):DE w z q A nb cb sz B m d x lo hi Q g c T:=by
 obtain⟨B2,d2,l2,h2,y,k1,k2,k3,k4,k5,k6⟩:=h.h;have e1:=h.l1;have e2:=h.Q1;have e3:=h.g1;have e4:=h.lo1;have e5:=hd.fr.size;have e6:=h.g2;exact⟨hd.cu,h.fr.trans hd.fr,e1,h.gb.keepF hd.fr (.inr (by omega)),h.o.keep hd.fr (.inr (by omega)),e4,h.hi1,h.t.keep hd.fr (.inr (by omega)),e3,by omega,h.gQ,e2,B2,d2,l2,h2,y,k1.keepF hd.fr (.inr (by omega)),k2.keep hd.fr (.inr (by omega)),k3,by omega,k5,k6⟩
theorem DE.push {g' c':Nat} {e:Bool×Int×Int} (h:DE w wr q A nb cb sz B m d x lo hi Q g c T) (hO:Own z g' (g'+1) 48 3 (some ⟨g',0,none⟩) (T.length+1) c' (edT (T++ [e]))) (hg:g'=g\/wr.heap.size<g') (hl:g'<z.heap.size) (hf:Fr g (g+1) wr z):DE w z q A nb cb sz B m d x lo hi Q g' c' (T++ [e]):=by
 obtain⟨B2,d2,l2,h2,y,k1,k2,k3,k4,k5,k6⟩:=h.h;have e1:=h.l1;have e2:=h.Q1;have e3:=h.g1;have e4:=h.lo1;have e5:=hf.size;have e6:=h.g2;have e7:=h.gQ;have e8:=h.hi1;have e9:=k1.lt;refine⟨h.cu.keepF hf (by omega),h.fr.past hf (by omega),e1,h.gb.keepF hf (.inl (by omega)),h.o.keep hf (.inl (by omega)),e4,e8,by rw[List.length_append];exact hO,by omega,hl,by omega,e2,B2,d2,l2,h2,y,k1.keepF hf (by omega),k2.keep hf (by omega),k3,by omega,by omega,k6⟩
theorem DE.set {B3:Option Addr} {d3:Nat} {y:Nat->Int} (h:DE w wr q A nb cb sz B m d x lo hi Q g c T) (hb:Below wr.heap.size wr z) (hO:Own z wr.heap.size z.heap.size 3 1 B3 m d3 (fun j=> .int .i64 (y j))) (hy:okB sz m x=true->okB sz m y=true):DE w ((z.setCell ⟨Q,0,none⟩ (.int .i64 sz)).setCell ⟨Q,1,none⟩ (.slice B3 m d3)) q A nb cb sz B m d x lo hi Q g c T:=by
 have hk:=h.keep hb;obtain⟨B2,d2,l2,h2,y2,k1,k2,k3,k4,k5,k6⟩:=hk.h;obtain⟨_,_,_,_,_,k7,_⟩:=h.h;have e0:=h.size;have e1:=h.l1;have e2:=h.Q1;have e3:=h.g1;have e4:=h.lo1;have e6:=h.g2;have e7:=h.gQ;have e8:=h.hi1;have e9:=k7.lt;have hf:=fr2 z Q (.int .i64 sz) (.slice B3 m d3);have e5:=hf.size;exact⟨hk.cu.keepF hf (by omega),hk.fr.past hf (by omega),e1,hk.gb.keepF hf (.inl (by omega)),hk.o.keep hf (.inl (by omega)),e4,e8,hk.t.keep hf (by omega),e3,by have:=hk.g2;omega,e7,e2,B3,d3,wr.heap.size,z.heap.size,y,k1.set,hO.keep hf (.inr (by omega)),by omega,e5,.inl (by omega),hy⟩
def deQ (w:World) (q:Nat) (A:Option Addr) (nb cb:Nat) (e:Ending) (w':World):Prop:=
 ∃(A':Option Addr) (c':Nat) (T:List (Bool×Int×Int)),e=.returned (.slice A' T.length c')/\T.length<=6/\Own w' w.heap.size w'.heap.size 48 3 A' T.length c' (edT T)/\Dr w q A nb cb w'
theorem DE.fin (h:DE w wr q A nb cb sz B m d x lo hi Q g c T) (h6:T.length<=6):deQ w q A nb cb (.returned (.slice (some ⟨g,0,none⟩) T.length c)) wr:=
 ⟨_,c,T,rfl,h6,h.t.mono (by have:=h.g1;omega) (by have:=h.g2;omega),h.cu,h.fr⟩
end
section
variable {w:World} {q nb cb:Nat} {A:Option Addr}
set_option maxRecDepth 100000 in
theorem l32Edits_s {sz:Int} {B:Option Addr} {m d lo hi:Nat} {x:Nat->Int} (hc:Cu w q A nb cb) (ho:Own w lo hi 3 1 B m d (fun j=> .int .i64 (x j))) (hlo:q+1<=lo) (hhi:hi<=w.heap.size) (hm:m<=1048576):
 Calls Tryz.prog 35 #[.pointer (some ⟨q,0,none⟩),.agg #[.int .i64 sz,.slice B m d]] w (deQ w q A nb cb):=by
 obtain⟨W,hW⟩: ∃W,W=((w.alloc (Obj.cells #[.int .i64 sz,.slice B m d] 26)).alloc (Obj.cells #[] 48)):=⟨_,rfl⟩;have hbW:Below w.heap.size w W:=by rw[hW];exact(br_.alloc nr_ _).alloc (by simp) _
 have hzW:W.heap.size=w.heap.size+2:=by rw[hW];simp
 have HG:Hid (GC W w.heap.size sz B m d):=by rw[hW];exact(GC.new _ _ _ _ _).keep (br_.alloc nr_ _)
 have HT:Hid (Own W (w.heap.size+1) (w.heap.size+1+1) 48 3 (some ⟨w.heap.size+1,0,none⟩) 0 0 (edT [])):=by
  have hn:=heap_alloc_new (w.alloc (Obj.cells #[.int .i64 sz,.slice B m d] 26)) (Obj.cells #[] 48);have he:(w.alloc (Obj.cells #[.int .i64 sz,.slice B m d] 26)).heap.size=w.heap.size+1:=by simp
  rw[he,<-hW] at hn;exact .inr ⟨w.heap.size+1,#[],rfl,nr_,Nat.lt_succ_self _,hn,nr_,by unfold maxLen;omega,rfl,fun j hj=>absurd hj (by omega)⟩
 have HO:Hid (Own W lo hi 3 1 B m d (fun j=> .int .i64 (x j))):=ho.keepB hbW hhi;have HC:Hid (Cu W q A nb cb):=hc.keep hbW;have HF:Hid (Fr q (q+1) w W):=Fr.of_below hbW;have hq:=hc.lt;obtain⟨e0,e1⟩:=gc_ HG;have HW:=hh_ hW;have KY:=hh_ (l2Copy_any sz B m d x W hi HO.rd (by omega) hm);clear hW hbW ho hc;go_enter Tryz.func35,Tryz.ntmps35;go_wp2_with fail
 rw[<-HW.out];clear HW;refine KY.mono ?_;rintro e w1 ⟨B1,d1,rfl,hO1,hb1⟩;have hz1:=hb1.size;obtain⟨W2,hW2⟩: ∃W2,W2=(w1.alloc (Obj.cells #[.int .i64 sz,.slice B1 m d1] 26)):=⟨_,rfl⟩;have hb2:Below w1.heap.size w1 W2:=by rw[hW2];exact br_.alloc nr_ _
 have hl2:W2.heap.size=w1.heap.size+1:=by rw[hW2];simp
 have HE:Hid (DE w W2 q A nb cb sz B m d x lo hi w1.heap.size (w.heap.size+1) 0 []):=by
  refine⟨(HC.keep hb1).keep hb2,(HF.trans (Fr.of_below hb1)).trans (Fr.of_below hb2),hq,(HG.keep hb1).keep hb2,(HO.keepB hb1 (by omega)).keepB hb2 (by omega),hlo,hhi,(HT.keepB hb1 (by omega)).keepB hb2 (by omega),by omega,by omega,.inl (by omega),by omega,B1,d1,W.heap.size+2,w1.heap.size,x,by rw[hW2];exact GC.new _ _ _ _ _,hO1.keepB hb2 nr_,by omega,by omega,.inl (by omega),fun h=>h⟩
 have hQ1:w.heap.size<w1.heap.size:=by omega
 have HW2:=hh_ hW2;have KB:=hh_ (l1Below_s (k:=6) HE.cu (by omega) (by omega));clear hW2 hb1 hb2 hO1 HT HO HC HF HG KY hl2 hz1 hzW;go_wp2_with fail
 rw[<-HW2.out];clear HW2 e0 e1;refine KB.mono ?_;rintro e w2 ⟨v0,rfl,hv0,hd⟩;replace HE:=hh_ (HE.draw hd);clear hd KB;go_wp2;go_loopw [5,7] (fun l i wr=> ∃(k g c:Nat) (T:List (Bool×Int×Int)),Hid (T.length+k<=5)/\i=.int .i64 k/\l=.slice (some ⟨g,0,none⟩) T.length c/\Hid (DE w wr q A nb cb sz B m d x lo hi w1.heap.size g c T)) (fun _ i _=>(intOf i).toNat);case atStart=>exact⟨v0,_,0,[],by show _<=_;simp;omega,rfl,rfl,HE⟩
 case round=>
  clear HE hv0;obtain⟨k,g,c,T,hTk,rfl,rfl,HE⟩:=hrel;by_cases hk0:0<k
  ·obtain⟨j,rfl⟩: ∃j,k=j+1:=⟨k-1,by omega⟩;have i1:(0:Int)<((j+1:Nat):Int):=by omega
   have hj4:j<=4:=by have:=hTk.out;omega
   have e0:=HE.gb.c0;have e1:=HE.gb.c1;have KG:=hh_ (IsGraph_sany sz B m d x wr hi HE.o.rd (by have:=HE.hi1;have:=HE.size;omega) hm);clear hk0;cases hok:okB sz m x
   ·rw[hok] at KG;clear hok;go_wp2_with fail
    refine KG.mono ?_;rintro e w3 ⟨rfl,hb⟩;replace HE:=hh_ (HE.keep hb);clear hb KG e0 e1;have hT5:T.length<=5:=by have:=hTk.out;omega
    have KB:=hh_ (l1Once_s (k:=12) HE.cu (by omega) (by omega));go_wp2_with fail
    refine KB.mono ?_;rintro e w8 ⟨y8,rfl,hd⟩;replace HE:=hh_ (HE.draw hd);clear hd KB;cases y8
    ·have HZ:=hh_ (HE.fin (by omega));go_wp2;go_ret;exact HZ.out
    ·have KB:=hh_ (l1Once_s (k:=2) HE.cu (by omega) (by omega));go_wp2_with fail
     refine KB.mono ?_;rintro e w9 ⟨y9,rfl,hd⟩;replace HE:=hh_ (HE.draw hd);clear hd KB;obtain⟨W4,hW4⟩: ∃W4,W4=(w9.alloc (Obj.cells #[.int .i64 (-1),.int .i64 0,.int .i64 7] 3)):=⟨_,rfl⟩;have hb4:Below w9.heap.size w9 W4:=by rw[hW4];exact br_.alloc nr_ _
     have hl4:w9.heap.size<W4.heap.size:=by rw[hW4];simp
     have hl:LC W4 w9.heap.size 3:=by
      refine⟨fun j hj=> ?_⟩;rw[hW4];have hj5:j=0\/j=1\/j=2:=by omega
      rcases hj5 with rfl|rfl|rfl
      ·exact⟨-1,by simp[go_sem]⟩
      ·exact⟨0,by simp[go_sem]⟩
      ·exact⟨7,by simp[go_sem]⟩
     have hq3:q<w9.heap.size:=HE.cu.lt;replace HE:=hh_ (HE.keep hb4);have KP:=hh_ (l1PickInt_s (k:=3) HE.cu hl hq3 hl4 (by omega) (by omega));have HW4:=hh_ hW4;clear hW4 hb4 hl;go_wp2_with fail
     rw[<-HW4.out];clear HW4;refine KP.mono ?_;rintro e v1 ⟨z1,rfl,hd⟩;replace HE:=hh_ (HE.draw hd);clear hd KP;have KB:=hh_ (l1Below_s (k:=3) HE.cu (by omega) (by omega));go_wp2_with fail
     refine KB.mono ?_;rintro e v2 ⟨u1,rfl,_,hd⟩;replace HE:=hh_ (HE.draw hd);clear hd KB;have ht2:=hh_ HE.t;have hg2:=HE.g2;go_wp2_with (first|(at_builtin;(refine wpList_pushEg v2 rfl _ _ rfl g c T ht2.out hg2 y9 z1 (u1:Int) rfl 1 v2.heap.size rfl rfl (by omega) ?_;intro g6 c6 w6 hO6 hg6 hl6 hf6)))
     have HZ:=hh_ ((HE.push hO6 hg6 hl6 hf6).fin (by rw[List.length_append];simp;omega));have hlen:(T++ [(y9,z1,(u1:Int))]).length=T.length+1:=by simp
     rw[hlen] at HZ;clear hO6 hg6 hl6 hf6 ht2 hlen;go_wp2;go_ret;exact HZ.out
   ·rw[hok] at KG;obtain⟨_,es,hvg,_⟩:=okB_ok' hok;subst es;go_wp2_with fail
    refine KG.mono ?_;rintro e w3 ⟨rfl,hb⟩;replace HE:=hh_ (HE.keep hb);clear hb KG e0 e1;have e0:=HE.gb.c0;have e1:=HE.gb.c1;by_cases hm2:1<m
    rotate_left
    ·have i2:(m:Int)<=1:=by omega
     clear hok hvg hm2;have hT5:T.length<=5:=by have:=hTk.out;omega
     have KB:=hh_ (l1Once_s (k:=12) HE.cu (by omega) (by omega));go_wp2_with fail
     refine KB.mono ?_;rintro e w8 ⟨y8,rfl,hd⟩;replace HE:=hh_ (HE.draw hd);clear hd KB;cases y8
     ·have HZ:=hh_ (HE.fin (by omega));go_wp2;go_ret;exact HZ.out
     ·have KB:=hh_ (l1Once_s (k:=2) HE.cu (by omega) (by omega));go_wp2_with fail
      refine KB.mono ?_;rintro e w9 ⟨y9,rfl,hd⟩;replace HE:=hh_ (HE.draw hd);clear hd KB;obtain⟨W4,hW4⟩: ∃W4,W4=(w9.alloc (Obj.cells #[.int .i64 (-1),.int .i64 0,.int .i64 7] 3)):=⟨_,rfl⟩;have hb4:Below w9.heap.size w9 W4:=by rw[hW4];exact br_.alloc nr_ _
      have hl4:w9.heap.size<W4.heap.size:=by rw[hW4];simp
      have hl:LC W4 w9.heap.size 3:=by
       refine⟨fun j hj=> ?_⟩;rw[hW4];have hj5:j=0\/j=1\/j=2:=by omega
       rcases hj5 with rfl|rfl|rfl
       ·exact⟨-1,by simp[go_sem]⟩
       ·exact⟨0,by simp[go_sem]⟩
       ·exact⟨7,by simp[go_sem]⟩
      have hq3:q<w9.heap.size:=HE.cu.lt;replace HE:=hh_ (HE.keep hb4);have KP:=hh_ (l1PickInt_s (k:=3) HE.cu hl hq3 hl4 (by omega) (by omega));have HW4:=hh_ hW4;clear hW4 hb4 hl;go_wp2_with fail
      rw[<-HW4.out];clear HW4;refine KP.mono ?_;rintro e v1 ⟨z1,rfl,hd⟩;replace HE:=hh_ (HE.draw hd);clear hd KP;have KB:=hh_ (l1Below_s (k:=3) HE.cu (by omega) (by omega));go_wp2_with fail
      refine KB.mono ?_;rintro e v2 ⟨u1,rfl,_,hd⟩;replace HE:=hh_ (HE.draw hd);clear hd KB;have ht2:=hh_ HE.t;have hg2:=HE.g2;go_wp2_with (first|(at_builtin;(refine wpList_pushEg v2 rfl _ _ rfl g c T ht2.out hg2 y9 z1 (u1:Int) rfl 1 v2.heap.size rfl rfl (by omega) ?_;intro g6 c6 w6 hO6 hg6 hl6 hf6)))
      have HZ:=hh_ ((HE.push hO6 hg6 hl6 hf6).fin (by rw[List.length_append];simp;omega));have hlen:(T++ [(y9,z1,(u1:Int))]).length=T.length+1:=by simp
      rw[hlen] at HZ;clear hO6 hg6 hl6 hf6 ht2 hlen;go_wp2;go_ret;exact HZ.out
    ·have i2:(1:Int)<m:=by omega
     have hm7:=hvg.n7;have KB:=hh_ (l1Below_s (k:=m) HE.cu (by omega) (by omega));have HOK:=hh_ hok;have Hm7:=hh_ hvg.n7;clear hok hvg;go_wp2_with fail
     refine KB.mono ?_;rintro e w4 ⟨v,rfl,hv,hd⟩;replace HE:=hh_ (HE.draw hd);clear hd KB e0 e1;have e0:=HE.gb.c0;have KB:=hh_ (l1Below_s (k:=m) HE.cu (by omega) (by omega));go_wp2_with fail
     refine KB.mono ?_;rintro e w5 ⟨u,rfl,hu,hd⟩;replace HE:=hh_ (HE.draw hd);clear hd KB e0;by_cases hvu:v=u
     ·have i3:((v:Int)==(u:Int))=true:=by simp;omega
      have hTk2:Hid (T.length+j<=5):=by show _<=_;have:=hTk.out;omega
      clear hvu;go_wp2;go_roundw;case rel=>exact⟨j,g,c,T,hTk2,by go_num,rfl,HE⟩
      case measure=>simp[intOf]<;>omega
     ·have i3:((v:Int)==(u:Int))=false:=by rw[beq_eq_false_iff_ne];omega
      obtain⟨B2,d2,l2,h2,y,k1,k2,k3,k4,k5,k6⟩:=HE.h;have hk7:=okB_vg (k6 HOK.out);have KE:=hh_ (l2Edge_v (GV.of (k2.rd.keep br_ k4) nr_ (k6 HOK.out)) hv hu);have q0:=k1.c0;have q1:=k1.c1;have Hy:=hh_ k6;have HR2:=hh_ k2.rd;clear hvu k1 k2 k5 k6 hk7;go_wp2_with fail
      refine KE.mono ?_;rintro e w6 ⟨rfl,hb6⟩;replace HE:=hh_ (HE.keep hb6);obtain⟨b,hb⟩: ∃b,b= !((rw_ y v).testBit u):=⟨_,rfl⟩;have hb':(rw_ y v).testBit u= !b:=by rw[hb];simp
      rw[hb'];have hb7:Below w6.heap.size w6 (w6.alloc (Obj.cells #[.bool b,.int .i64 (v:Int),.int .i64 (u:Int)] 48)):=br_.alloc nr_ _;have hl7:w6.heap.size<(w6.alloc (Obj.cells #[.bool b,.int .i64 (v:Int),.int .i64 (u:Int)] 48)).heap.size:=by simp
      have C0:Hid ((w6.alloc (Obj.cells #[.bool b,.int .i64 (v:Int),.int .i64 (u:Int)] 48)).cell? ⟨w6.heap.size,0,none⟩=some (.bool b)):=by show _=_;simp[go_sem]
      have C1:Hid ((w6.alloc (Obj.cells #[.bool b,.int .i64 (v:Int),.int .i64 (u:Int)] 48)).cell? ⟨w6.heap.size,1,none⟩=some (.int .i64 (v:Int))):=by show _=_;simp[go_sem]
      have C2:Hid ((w6.alloc (Obj.cells #[.bool b,.int .i64 (v:Int),.int .i64 (u:Int)] 48)).cell? ⟨w6.heap.size,2,none⟩=some (.int .i64 (u:Int))):=by show _=_;simp[go_sem]
      have hg6:g+1<=w6.heap.size:=HE.g2;have HL7:=hh_ hl7;replace HE:=hh_ (HE.keep hb7);have ht7:=hh_ HE.t;have HG7:=hh_ HE.g2;have hT5:T.length<=5:=by have:=hTk.out;omega
      clear hb6 hb7 KE q0 q1 HR2 Hy hb hb' k3 k4 hl7;go_wp2_with (first
       |(at_builtin;(refine wpList_pushEg _ rfl _ _ rfl g c T ht7.out HG7 b (v:Int) (u:Int) rfl 1 (w6.heap.size+1) (by simp) rfl (by omega) ?_;intro g8 c8 w8 hO8 hg8 hl8 hf8;have HE8:=HE.push hO8 hg8 hl8 hf8;obtain⟨B3,d3,l3,h3,y3,k1,k2,k3,k4,k5,k6⟩:=HE8.h;have q0:=k1.c0;have q1:=k1.c1;have c0:=frC_ hf8 C0.out HL7.out (.inr hg6);have c1:=frC_ hf8 C1.out HL7.out (.inr hg6);have c2:=frC_ hf8 C2.out HL7.out (.inr hg6)))
       |fail)
      have HE9:=hh_ HE8;have K1:=hh_ k1;have K6:=hh_ k6;have KA:=hh_ (l32Apply_s (m:Int) B3 m d3 y3 b (v:Int) (u:Int) w8 h3 k2.rd k4 hm);clear HE8 k1 k2 k3 k4 k5 k6 hO8 hg8 hl8 hf8 C0 C1 C2 HL7 ht7 HG7 HE;refine KA.mono ?_;rintro e w9 ⟨A9,c9,rfl,hO9,hb9⟩;have hn9:=K1.keep hb9;have n0:=hn9.c0;have n1:=hn9.c1;have n2:=hn9.f0;have n3:=hn9.f1;have HS9:=hh_ (HE9.set hb9 hO9 (fun h=>apX_ok (K6.out h)));have hTk2:Hid ((T++ [(b,(v:Int),(u:Int))]).length+j<=5):=by show _<=_;have:=hTk.out;simp;omega
      clear q0 q1 c0 c1 c2 KA hO9 hb9 hn9 K1 K6 HE9;go_wp2;go_roundw;case rel=>exact⟨j,g8,c8,T++ [(b,(v:Int),(u:Int))],hTk2,by go_num,by rw[List.length_append];rfl,HS9⟩
      case measure=>simp[intOf]<;>omega
  ·obtain rfl:k=0:=by omega
   have hT5:T.length<=5:=by have:=hTk.out;omega
   have KB:=hh_ (l1Once_s (k:=12) HE.cu (by omega) (by omega));go_wp2_with fail
   refine KB.mono ?_;rintro e w8 ⟨y8,rfl,hd⟩;replace HE:=hh_ (HE.draw hd);clear hd KB;cases y8
   ·have HZ:=hh_ (HE.fin (by omega));go_wp2;go_ret;exact HZ.out
   ·have KB:=hh_ (l1Once_s (k:=2) HE.cu (by omega) (by omega));go_wp2_with fail
    refine KB.mono ?_;rintro e w9 ⟨y9,rfl,hd⟩;replace HE:=hh_ (HE.draw hd);clear hd KB;obtain⟨W4,hW4⟩: ∃W4,W4=(w9.alloc (Obj.cells #[.int .i64 (-1),.int .i64 0,.int .i64 7] 3)):=⟨_,rfl⟩;have hb4:Below w9.heap.size w9 W4:=by rw[hW4];exact br_.alloc nr_ _
    have hl4:w9.heap.size<W4.heap.size:=by rw[hW4];simp
    have hl:LC W4 w9.heap.size 3:=by
     refine⟨fun j hj=> ?_⟩;rw[hW4];have hj5:j=0\/j=1\/j=2:=by omega
     rcases hj5 with rfl|rfl|rfl
     ·exact⟨-1,by simp[go_sem]⟩
     ·exact⟨0,by simp[go_sem]⟩
     ·exact⟨7,by simp[go_sem]⟩
    have hq3:q<w9.heap.size:=HE.cu.lt;replace HE:=hh_ (HE.keep hb4);have KP:=hh_ (l1PickInt_s (k:=3) HE.cu hl hq3 hl4 (by omega) (by omega));have HW4:=hh_ hW4;clear hW4 hb4 hl;go_wp2_with fail
    rw[<-HW4.out];clear HW4;refine KP.mono ?_;rintro e v1 ⟨z1,rfl,hd⟩;replace HE:=hh_ (HE.draw hd);clear hd KP;have KB:=hh_ (l1Below_s (k:=3) HE.cu (by omega) (by omega));go_wp2_with fail
    refine KB.mono ?_;rintro e v2 ⟨u1,rfl,_,hd⟩;replace HE:=hh_ (HE.draw hd);clear hd KB;have ht2:=hh_ HE.t;have hg2:=HE.g2;go_wp2_with (first|(at_builtin;(refine wpList_pushEg v2 rfl _ _ rfl g c T ht2.out hg2 y9 z1 (u1:Int) rfl 1 v2.heap.size rfl rfl (by omega) ?_;intro g6 c6 w6 hO6 hg6 hl6 hf6)))
    have HZ:=hh_ ((HE.push hO6 hg6 hl6 hf6).fin (by rw[List.length_append];simp;omega));have hlen:(T++ [(y9,z1,(u1:Int))]).length=T.length+1:=by simp
    rw[hlen] at HZ;clear hO6 hg6 hl6 hf6 ht2 hlen;go_wp2;go_ret;exact HZ.out
end
end Go.Proofs.YtfabbohijhjpcaaGreatDoor
