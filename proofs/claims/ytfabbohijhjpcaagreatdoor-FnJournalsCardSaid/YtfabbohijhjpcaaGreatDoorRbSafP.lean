/- Lemmas. -/
import Derived.Test.YtfabbohijhjpcaaGreatDoorRbJnlI
/-
-/
namespace Go.Proofs.YtfabbohijhjpcaaGreatDoor
open Go.RowKit
set_option maxHeartbeats 6400000
section
variable (sz:Int) (A:Option Addr) (m c:Nat) (x:Nat->Int) (Al:Option Addr) (n cl:Nat) (a:Nat->Bool) (v u:Nat->Int) (str:ByteArray) (w:World)
set_option maxRecDepth 100000 in
theorem MembershipOf_s (h:GA w A m c x) (hl:ED w Al n cl a v u) (hm:m<=1048576) (hn:n<=1048576):
 Calls Tryz.prog 16 #[.agg #[.int .i64 sz,.slice A m c],.slice Al n cl,.string str] w (meQ w (meL sz m x n a v u str.toList)):=by
 obtain⟨W,hW⟩: ∃W,W=((w.alloc (Obj.cells #[.int .i64 sz,.slice A m c] 26)).alloc (Obj.cells #[] 4)):=⟨_,rfl⟩;have HB:Hid (From w W):=by rw[hW];exact(From.alloc _ _).alloc_ _
 have HK:=hh_ (h.keep HB.below);have HD:=hh_ (hl.keep HB.below);have HC:Hid (GC W w.heap.size sz A m c):=by rw[hW];exact(GC.new _ _ _ _ _).keep (br_.alloc nr_ _)
 have hzW:W.heap.size=w.heap.size+2:=by rw[hW];simp
 have HO:Hid (Own W (w.heap.size+1) (w.heap.size+1+1) 4 1 (some ⟨w.heap.size+1,0,none⟩) 0 0 (blL [])):=by
  rw[hW];have:=bl_nil (w.alloc (Obj.cells #[.int .i64 sz,.slice A m c] 26));have e:(w.alloc (Obj.cells #[.int .i64 sz,.slice A m c] 26)).heap.size=w.heap.size+1:=by simp
  rw[e] at this;exact this
 have HW:=hh_ hW;have HDw:=hh_ hl;clear hW h hl;obtain⟨D,hD⟩: ∃D,D=apD sz m x n a v u:=⟨_,rfl⟩;have HDD:=hh_ hD;have KA:=hh_ (ApplyEdits_s sz A m c x Al n cl a v u W W.heap.size HK.rd HD.rd nr_ hm hn);rw[<-hD] at KA;clear hD;go_enter Tryz.func16,Tryz.ntmps16;obtain⟨e0,e1⟩:=gc_ HC;go_wp2_with fail
 rw[<-HW.out];clear HW;refine KA.mono ?_;rintro e w1 ⟨A1,c1,rfl,ho1,hb1⟩;have HO1:=hh_ (HO.keepB hb1 (by omega));have hz1:=hb1.size;clear e0 e1;replace HB:=hh_ (HB.keep hb1);replace HK:=hh_ (HK.keep hb1);replace HD:=hh_ (HD.keep hb1);replace HC:=hh_ (HC.keep hb1);clear hb1 ho1 HO KA;obtain⟨e0,e1⟩:=gc_ HC;obtain⟨Z1,hZ1⟩: ∃Z,Z=apZ sz m x n a v u:=⟨_,rfl⟩;obtain⟨N1,hN1⟩: ∃Z,Z=apN sz m x n a v u:=⟨_,rfl⟩;rw[<-hZ1,<-hN1];clear hZ1 hN1;obtain⟨W2,hW2⟩: ∃W2,W2=w1.alloc (Obj.cells #[.int .i64 Z1,.slice A1 N1 c1] 26):=⟨_,rfl⟩;have hb2:Below w1.heap.size w1 W2:=by rw[hW2];exact br_.alloc nr_ _
 have HO2:=hh_ (HO1.keepB hb2 (by omega));have hz2:=hb2.size;have HW2:=hh_ hW2;have hCl:=HC.lt;clear hW2 HO1;go_wp2_with fail
 rw[<-HW2.out];clear HW2;clear e0 e1;replace HB:=hh_ (HB.keep hb2);replace HK:=hh_ (HK.keep hb2);replace HD:=hh_ (HD.keep hb2);replace HC:=hh_ (HC.keep hb2);clear hb2;obtain⟨e0,e1⟩:=gc_ HC;refine(l2Copy_any sz A m c x W2 W2.heap.size HK.rd nr_ hm).mono ?_;rintro e w3 ⟨A3,c3,rfl,ho3,hb3⟩;have HO3:=hh_ (HO2.keepB hb3 (by omega));have hz3:=hb3.size;clear e0 e1;replace HB:=hh_ (HB.keep hb3);replace HK:=hh_ (HK.keep hb3);replace HD:=hh_ (HD.keep hb3);replace HC:=hh_ (HC.keep hb3);clear hb3 HO2;obtain⟨e0,e1⟩:=gc_ HC;obtain⟨W4,hW4⟩: ∃W4,W4=w3.alloc (Obj.cells #[.int .i64 sz,.slice A3 m c3] 26):=⟨_,rfl⟩;have hb4:Below w3.heap.size w3 W4:=by rw[hW4];exact br_.alloc nr_ _
 have HO4:Hid (Own W4 (w.heap.size+1) (w.heap.size+1+1) 4 1 (some ⟨w.heap.size+1,0,none⟩) 0 0 (blL (meV sz m x a v u str.toList 0))):=HO3.keepB hb4 (by omega);have HY4:Hid (Own W4 (W2.heap.size+2) w3.heap.size 3 1 A3 m c3 (fun j=> .int .i64 (x j))):=ho3.keepB hb4 nr_;have HQ4:Hid (GC W4 w3.heap.size sz A3 m c3):=by rw[hW4];exact GC.new _ _ _ _ _
 have hz4:W4.heap.size=w3.heap.size+1:=by rw[hW4];simp
 have HW4:=hh_ hW4;clear hW4 HO3 ho3;clear e0 e1;replace HB:=hh_ (HB.keep hb4);replace HK:=hh_ (HK.keep hb4);replace HD:=hh_ (HD.keep hb4);replace HC:=hh_ (HC.keep hb4);clear hb4;obtain⟨e0,e1⟩:=gc_ HC;have HB4:=HB;cases D
 ·have hr:apR sz m x n a v u=none:=by
   cases hr:apR sz m x n a v u with
   |none=>rfl
   |some y=>have:=(ap_some hr).1;rw[<-HDD.out] at this;cases this
  have Hn:Hid (meL sz m x n a v u str.toList= []):=meL_no hr;clear hr;go_wp2_with fail
  rw[<-HW4.out];clear HW4;go_loopw [7,11] (fun o i wr=>o=.slice (some ⟨w.heap.size+1,0,none⟩) 0 0/\i=.int .i64 0/\wr=W4) (fun _ _ _=>0);case atStart=>exact⟨rfl,rfl,by first|rfl|trivial⟩
  case round=>
   obtain⟨rfl,rfl,rfl⟩:=hrel;go_wp2;go_ret;rw[Hn.out];exact⟨_,_,rfl,HO4.mono (by omega) (by omega),HB4.below⟩
 ·have hr: ∃y,apR sz m x n a v u=some y:=by
   cases hr:apR sz m x n a v u with
   |none=>have:=(ap_none hr).1;rw[<-HDD.out] at this;cases this
   |some y=>exact⟨y,rfl⟩
  obtain⟨y0,hr⟩:=hr;obtain⟨hok,hn12,_⟩:=apR_parts hr;have Hn:Hid (meL sz m x n a v u str.toList=meV sz m x a v u str.toList (n+1)):=meL_yes hr;have Hst:Hid (∀k,apS sz m a v u 0 (k+1) x=apX (a k) sz m (apS sz m a v u 0 k x) (v k) (u k)):=fun k=>by
   have:=apS_snoc (sz:=sz) (m:=m) (a:=a) (v:=v) (u:=u) k 0 x;rwa [Nat.zero_add] at this
  clear hr hok;go_wp2_with fail
  rw[<-HW4.out];clear HW4;go_loopw [7,11] (fun o i wr=> ∃(k c' g c5 l5 h5:Nat) (A5:Option Addr) (y:Nat->Int),k<=n+1/\i=.int .i64 k/\o=.slice (some ⟨g,0,none⟩) k c'/\w.heap.size<g/\g<wr.heap.size/\g≠w3.heap.size/\(g<l5\/h5<=g)/\Hid (Own wr g (g+1) 4 1 (some ⟨g,0,none⟩) k c' (blL (meV sz m x a v u str.toList k)))/\Hid (GC wr w3.heap.size sz A5 m c5)/\Hid (Own wr l5 h5 3 1 A5 m c5 (fun j=> .int .i64 (y j)))/\w.heap.size+2<=l5/\(h5<=w3.heap.size\/w3.heap.size+1<=l5)/\h5<=wr.heap.size/\w3.heap.size<wr.heap.size/\Hid (k<=n->y=apS sz m a v u 0 k x)/\Hid (From w wr)) (fun _ i _=>n+1-(intOf i).toNat);case atStart=>exact⟨0,0,w.heap.size+1,c3,W2.heap.size+2,w3.heap.size,A3,x,by omega,rfl,rfl,by omega,by omega,by omega,.inl (by omega),HO4,HQ4,HY4,by omega,.inl nr_,by omega,by omega,(fun _=>rfl),HB4⟩
  case round=>
   clear HO4 HQ4 HY4 HB4 HB HK HC HD e0 e1;obtain⟨k,c',g,c5,l5,h5,A5,y,hk,rfl,rfl,hg1,hg2,hg3,hg4,HO,HQ,HY,hl5,hh5,hh6,hw3,Hy,HB⟩:=hrel;have hbk:Below w.heap.size w wr:=HB.below;by_cases hkn:k<=n
   ·have i1:(k:Int)<=n:=by omega
    have hy:=Hy.out hkn;obtain⟨b,hb⟩: ∃b,b=isB sz m y str.toList:=⟨_,rfl⟩;have KI:Hid (∀ {z:World} {A':Option Addr} {c':Nat},GA z A' m c' y->Calls Tryz.prog 17 #[.agg #[.int .i64 sz,.slice A' m c'],.string str] z fun e w'=>e=.returned (.bool b)/\Below z.heap.size z w'):=by rw[hb];exact fun h=>IsIn_s sz _ m _ y str _ h hm
    obtain⟨T,hT⟩: ∃T,T=meV sz m x a v u str.toList k:=⟨_,rfl⟩;have Hs:Hid (meV sz m x a v u str.toList (k+1)=T++ [b]):=by show _=_;rw[hT,hb,hy];exact meV_succ k
    have Hy1:Hid (apX (a k) sz m y (v k) (u k)=apS sz m a v u 0 (k+1) x):=by show _=_;rw[Hst.out,hy]
    have hTl:T.length=k:=by rw[hT,meV_len]
    rw[<-hT] at HO;clear hT hb hy Hy;subst hTl;have HA:Hid (GA wr A5 m c5 y):=⟨HY.rd.keep br_ hh6⟩;have e0:=HQ.c0;have e1:=HQ.c1;have HX:Hid (From wr wr):=From.refl _;go_wp2_with fail
    refine(KI.out HA.out).mono ?_;rintro e w7 ⟨rfl,hb7⟩;have HO7:Hid (Own w7 g (g+1) 4 1 (some ⟨g,0,none⟩) T.length c' (blL T)):=HO.keepB hb7 hg2;have HQ7:=hh_ (HQ.keep hb7);have HY7:Hid (Own w7 l5 h5 3 1 A5 m c5 (fun j=> .int .i64 (y j))):=HY.keepB hb7 hh6;have HB7:=hh_ (HB.keep hb7);have hz7:=hb7.size;have hg7:g<w7.heap.size:=by omega
    clear e0 e1 HA HX KI HO HQ HY HB hb7 hbk;have hzB:=HB7.below.size;by_cases hkl:T.length<n
    ·have i2:(T.length:Int)<(n:Int):=by omega
     go_wp2_with (first|(at_builtin;(refine wpList_pushBl w7 rfl _ _ rfl g c' T HO7.out hg7 b rfl 1 w7.heap.size rfl rfl (by omega) ?_;intro g3 c3' w8 hO3 hg8 hg9 hf3)))
     have HO8:Hid (Own w8 g3 (g3+1) 4 1 (some ⟨g3,0,none⟩) (T.length+1) c3' (blL (meV sz m x a v u str.toList (T.length+1)))):=by show Own _ _ _ _ _ _ _ _ _;rw[Hs.out];exact hO3
     have HB8:Hid (From w w8):=⟨HB7.below.trans (hf3.below (by omega) hzB)⟩;have HQ8:=hh_ (HQ7.keepF hf3 (by omega));have HY8:Hid (Own w8 l5 h5 3 1 A5 m c5 (fun j=> .int .i64 (y j))):=HY7.keep hf3 (by omega);have hz8:=hf3.size;clear hO3 hf3 HO7 HQ7 HY7 HB7;have HD8:=hh_ (HDw.keep HB8.below);obtain⟨be,oe,rfl⟩:=HD8.addr (by omega);obtain⟨p0,p1,p2⟩:=HD8.at hkl;have hlt:=World.block_lt_of_cell? _ _ p0;have KD:Hid (Calls Tryz.prog 41 #[.agg #[.int .i64 sz,.slice A5 m c5],.agg #[.bool (a T.length),.int .i64 (v T.length),.int .i64 (u T.length)]] w8.drew fun e w'=> ∃A' c',e=.returned (.tuple #[.agg #[.int .i64 sz,.slice A' m c'],.bool (apB (a T.length) sz m y (v T.length) (u T.length))])/\Own w' w8.heap.size w'.heap.size 3 1 A' m c' (fun j=> .int .i64 (apX (a T.length) sz m y (v T.length) (u T.length) j))/\Below w8.heap.size w8.drew w'):=
      l32Apply_s sz A5 m c5 y (a T.length) (v T.length) (u T.length) w8.drew w8.drew.heap.size (HY8.drew.rd.keep br_ (by show h5<=w8.heap.size;omega)) nr_ hm
     have q0:=HQ8.c0;have q1:=HQ8.c1;have hbew:=HDw.rd.2 (by omega);obtain⟨be',oe',hbe1,hbe2,_⟩:=hbew;have hbe:be<w3.heap.size\/w3.heap.size+1<=be:=by
      simp only[Option.some.injEq,Addr.mk.injEq,and_true] at hbe1;omega
     clear hbe1 hbe2;go_wp2;refine wp_region_held_drew (S:=fun z=>z.cell? ⟨be,oe+T.length*3,none⟩=some (.bool (a T.length))/\z.cell? ⟨be,oe+T.length*3+1,none⟩=some (.int .i64 (v T.length))/\z.cell? ⟨be,oe+T.length*3+2,none⟩=some (.int .i64 (u T.length))) (by kernel_rfl) ⟨p0,p1,p2⟩ (fun hHeld=> ?_);refine pcY 1 ?_;iterate 3 (refine ptY ?_)
     refine w1H 0 (fun K hK=> ?_);go_simp;refine hK.out _ _ ⟨p0,p1,p2⟩ (fun hHeld=> ?_);clear hK K;try simp only[Act.put,sl0,sl1,sl2]
     refine w1H 5 (fun K hK=> ?_);go_simp;go_at_call 41;refine(KD.out).mono ?_
     rintro e w9 ⟨A6,c6,rfl,ho6,hb6⟩;have HU6:=hh_ (HQ8.drew.keep hb6);have q2:=HU6.c0;have q3:=HU6.c1;have q4:=HU6.f0;have q5:=HU6.f1;have F6:=fr2 w9 w3.heap.size (.int .i64 sz) (.slice A6 m c6);have S6:w9.cell? ⟨be,oe+T.length*3,none⟩=some (.bool (a T.length))/\w9.cell? ⟨be,oe+T.length*3+1,none⟩=some (.int .i64 (v T.length))/\w9.cell? ⟨be,oe+T.length*3+2,none⟩=some (.int .i64 (u T.length)):=⟨up hb6 p0 hlt,up hb6 p1 hlt,up hb6 p2 hlt⟩;have hz9:w8.heap.size<=w9.heap.size:=hb6.size;refine hK.out _ _ S6 (fun hHeld=> ?_);clear hK K;try simp only[Act.put,sl0,sl1,sl2]
     iterate 3 (refine ptY ?_)
     refine w1H 9 (fun K hK=> ?_);go_simp;refine hK.out _ _ ⟨frC_ F6 S6.1 (by omega) hbe,frC_ F6 S6.2.1 (by omega) hbe,frC_ F6 S6.2.2 (by omega) hbe⟩ (fun hHeld=> ?_);clear hK K;try simp only[Act.put,sl0,sl1,sl2]
     refine wpAnyH_done (by kernel_rfl) ?_ _;have HU7:Hid (GC ((w9.setCell ⟨w3.heap.size,0,none⟩ (.int .i64 sz)).setCell ⟨w3.heap.size,1,none⟩ (.slice A6 m c6)) w3.heap.size sz A6 m c6):=HU6.set;have HY9:Hid (Own ((w9.setCell ⟨w3.heap.size,0,none⟩ (.int .i64 sz)).setCell ⟨w3.heap.size,1,none⟩ (.slice A6 m c6)) w8.heap.size w9.heap.size 3 1 A6 m c6 (fun j=> .int .i64 (apX (a T.length) sz m y (v T.length) (u T.length) j))):=ho6.keep F6 (.inr (by omega));have HO9:Hid (Own ((w9.setCell ⟨w3.heap.size,0,none⟩ (.int .i64 sz)).setCell ⟨w3.heap.size,1,none⟩ (.slice A6 m c6)) g3 (g3+1) 4 1 (some ⟨g3,0,none⟩) (T.length+1) c3' (blL (meV sz m x a v u str.toList (T.length+1)))):=(HO8.drew.keepB hb6 hg9).keep F6 (by omega);have HB9:Hid (From w ((w9.setCell ⟨w3.heap.size,0,none⟩ (.int .i64 sz)).setCell ⟨w3.heap.size,1,none⟩ (.slice A6 m c6))):=(HB8.drew.keep hb6).set (by omega) _ _
     have hzF:=F6.size;clear ho6 hb6 KD p0 p1 p2 q0 q1 q2 q3 q4 q5 HU6 F6 S6 HQ8 HY8 HO8 HB8 HD8;go_wp2;go_roundw;case rel=>exact⟨T.length+1,c3',g3,c6,w8.heap.size,w9.heap.size,A6,_,by omega,by go_num,rfl,by omega,by omega,by omega,by omega,HO9,HU7,HY9,by omega,.inr (by omega),hzF,by omega,(fun _=>Hy1.out),HB9⟩
     case measure=>simp[intOf]<;>omega
    ·have i2:(n:Int)<=T.length:=by omega
     go_wp2_with (first|(at_builtin;(refine wpList_pushBl w7 rfl _ _ rfl g c' T HO7.out hg7 b rfl 1 w7.heap.size rfl rfl (by omega) ?_;intro g3 c3' w8 hO3 hg8 hg9 hf3)))
     have HO8:Hid (Own w8 g3 (g3+1) 4 1 (some ⟨g3,0,none⟩) (T.length+1) c3' (blL (meV sz m x a v u str.toList (T.length+1)))):=by show Own _ _ _ _ _ _ _ _ _;rw[Hs.out];exact hO3
     have HB8:Hid (From w w8):=⟨HB7.below.trans (hf3.below (by omega) hzB)⟩;have HQ8:=hh_ (HQ7.keepF hf3 (by omega));have HY8:Hid (Own w8 l5 h5 3 1 A5 m c5 (fun j=> .int .i64 (y j))):=HY7.keep hf3 (by omega);have hz8:=hf3.size;clear hO3 hf3 HO7 HQ7 HY7 HB7;go_wp2;go_roundw;case rel=>exact⟨T.length+1,c3',g3,c5,l5,h5,A5,y,by omega,by go_num,rfl,by omega,by omega,by omega,by omega,HO8,HQ8,HY8,by omega,hh5,by omega,by omega,(fun hh=>absurd hh (by omega)),HB8⟩
     case measure=>simp[intOf]<;>omega
   ·have hk1:k=n+1:=by omega
    have i1:(n:Int)<k:=by omega
    have Hk:Hid (meV sz m x a v u str.toList k=meL sz m x n a v u str.toList):=by show _=_;rw[Hn.out,hk1]
    have Hkl:Hid ((meL sz m x n a v u str.toList).length=k):=by show _=_;rw[<-Hk.out,meV_len]
    rw[Hk.out] at HO;clear hk1;go_wp2;go_ret;exact⟨some ⟨g,0,none⟩,c',by rw[Hkl.out];rfl,by rw[Hkl.out];exact HO.mono (by omega) hg2,HB.below⟩
end
set_option maxHeartbeats 3200000
def flP (l:List Bool) (i:Nat):Bool:=l.getD i false&& !l.getD (i+1) false
def flO (l:List Bool):Option Nat:=lsK (flP l) (l.length-1)
def flI (l:List Bool):Int:=match flO l with|none=> -1|some k=>(k:Int)
theorem flI_some {l:List Bool} {k:Nat} (h:flO l=some k):flI l=(k:Int):=by unfold flI;rw[h]
theorem flI_none {l:List Bool} (h:flO l=none):flI l= -1:=by unfold flI;rw[h]
set_option maxRecDepth 100000 in
theorem FirstLoss_i (sz:Int) (A:Option Addr) (m c:Nat) (x:Nat->Int) (Al:Option Addr) (n cl:Nat) (a:Nat->Bool) (v u:Nat->Int) (str:ByteArray) (w:World) (h:GA w A m c x) (hl:ED w Al n cl a v u) (hm:m<=1048576) (hn:n<=1048576):
 Calls Tryz.prog 18 #[.agg #[.int .i64 sz,.slice A m c],.slice Al n cl,.string str] w fun e w'=>e=.returned (.int .i64 (flI (meL sz m x n a v u str.toList)))/\Below w.heap.size w w':=by
 obtain⟨W,hW⟩: ∃W,W=(w.alloc (Obj.cells #[.int .i64 sz,.slice A m c] 26)):=⟨_,rfl⟩;have HB:Hid (From w W):=by rw[hW];exact From.alloc _ _
 have HC:Hid (GC W w.heap.size sz A m c):=by rw[hW];exact GC.new _ _ _ _ _
 have HW:=hh_ hW;have KM:=hh_ (MembershipOf_i sz A m c x Al n cl a v u str W (h.keep HB.below) (hl.keep HB.below) hm hn);have hl13:=meL_len (sz:=sz) (m:=m) (x:=x) (n:=n) (a:=a) (v:=v) (u:=u) (s:=str.toList);obtain⟨l,hlq⟩: ∃l,l=meL sz m x n a v u str.toList:=⟨_,rfl⟩;rw[<-hlq] at KM hl13 ⊢;clear hW h hl hlq;go_enter Tryz.func18,Tryz.ntmps18;obtain⟨e0,e1⟩:=gc_ HC;go_wp2_with fail
 rw[<-HW.out];clear HW;refine KM.mono ?_;rintro e w1 ⟨A1,c1,rfl,ho1,hb1⟩;have HO1:=hh_ ho1;clear e0 e1;replace HB:=hh_ (HB.keep hb1);replace HC:=hh_ (HC.keep hb1);clear hb1 ho1 KM;obtain⟨e0,e1⟩:=gc_ HC;go_wp2;go_loopw [8] (fun i wr=> ∃k:Nat,k<=l.length/\i=.int .i64 ((k+1:Nat):Int)/\Hid (∀j,j<k->flP l j=false)/\wr=w1) (fun i _=>l.length+3-(intOf i).toNat);case atStart=>exact⟨0,Nat.zero_le _,rfl,(fun j hj=>absurd hj (by omega)),by first|rfl|trivial⟩
 case round=>
  obtain⟨k,hk,rfl,hall,rfl⟩:=hrel;by_cases hlt:k+1<l.length
  ·obtain⟨g,rfl,_,_,_,hc,_⟩:=HO1.at_ (by omega);have p0:=hc k (by omega);have p1:=hc (k+1) (by omega);obtain⟨b0,hb0⟩: ∃b,b=l.getD k false:=⟨_,rfl⟩;obtain⟨b1,hb1⟩: ∃b,b=l.getD (k+1) false:=⟨_,rfl⟩;have q0:wr.cell? ⟨g,k,none⟩=some (.bool b0):=by rw[p0,hb0];rfl
   have q1:wr.cell? ⟨g,k+1,none⟩=some (.bool b1):=by rw[p1,hb1];rfl
   have Hd:Hid (flP l k=(b0&& !b1)):=by show _=_;rw[hb0,hb1];rfl
   have i1:((k+1:Nat):Int)<(l.length:Int):=by omega
   have i2:(k:Int)<l.length:=by omega
   have i3:(k:Int)+1<(l.length:Int):=by omega
   have w0:wrap64 (((k+1:Nat):Int)-1)=(k:Int):=by rw[Go.IntWalk.wrap64_in _ (by omega)];omega
   have w2:((k:Int)+1).toNat=k+1:=by omega
   have w3:(k:Int)+1-1=(k:Int):=by omega
   clear p0 p1 hc hb0 hb1;cases b0
   ·have Hn:=hh_ (Hd.trans (Bool.false_and _));clear Hd;go_wp2;go_roundw;case rel=>
     refine⟨k+1,by omega,by go_num,fun j hj=> ?_,by first|rfl|trivial⟩;by_cases hjk:j<k
     ·exact hall.out j hjk
     ·obtain rfl:j=k:=by omega
      exact Hn.out
    case measure=>simp[intOf]<;>omega
   ·cases b1
    ·have Hn:Hid (flI l=(k:Int)):=flI_some (lsK_yes (by omega) (Hd.trans rfl) hall.out);clear Hd;go_wp2;go_ret;exact⟨ret_int Hn.symm,HB.below⟩
    ·have Hn:Hid (flP l k=false):=Hd.trans rfl;clear Hd;go_wp2;go_roundw;case rel=>
      refine⟨k+1,by omega,by go_num,fun j hj=> ?_,by first|rfl|trivial⟩;by_cases hjk:j<k
      ·exact hall.out j hjk
      ·obtain rfl:j=k:=by omega
       exact Hn.out
     case measure=>simp[intOf]<;>omega
  ·have Hn:Hid (flI l= -1):=flI_none (lsK_no fun j hj=>hall.out j (by omega));have i1:(l.length:Int)<=((k+1:Nat):Int):=by omega
   have i2:(l.length:Int)<=(k:Int)+1:=by omega
   go_wp2;go_ret;exact⟨ret_int Hn.symm,HB.below⟩
set_option maxRecDepth 100000 in
theorem FirstLoss_s (sz:Int) (A:Option Addr) (m c:Nat) (x:Nat->Int) (Al:Option Addr) (n cl:Nat) (a:Nat->Bool) (v u:Nat->Int) (str:ByteArray) (w:World) (h:GA w A m c x) (hl:ED w Al n cl a v u) (hm:m<=1048576) (hn:n<=1048576):
 Calls Tryz.prog 19 #[.agg #[.int .i64 sz,.slice A m c],.slice Al n cl,.string str] w fun e w'=>e=.returned (.int .i64 (flI (meL sz m x n a v u str.toList)))/\Below w.heap.size w w':=by
 obtain⟨W,hW⟩: ∃W,W=(w.alloc (Obj.cells #[.int .i64 sz,.slice A m c] 26)):=⟨_,rfl⟩;have HB:Hid (From w W):=by rw[hW];exact From.alloc _ _
 have HC:Hid (GC W w.heap.size sz A m c):=by rw[hW];exact GC.new _ _ _ _ _
 have HW:=hh_ hW;have KM:=hh_ (MembershipOf_s sz A m c x Al n cl a v u str W (h.keep HB.below) (hl.keep HB.below) hm hn);have hl13:=meL_len (sz:=sz) (m:=m) (x:=x) (n:=n) (a:=a) (v:=v) (u:=u) (s:=str.toList);obtain⟨l,hlq⟩: ∃l,l=meL sz m x n a v u str.toList:=⟨_,rfl⟩;rw[<-hlq] at KM hl13 ⊢;clear hW h hl hlq;go_enter Tryz.func19,Tryz.ntmps19;obtain⟨e0,e1⟩:=gc_ HC;go_wp2_with fail
 rw[<-HW.out];clear HW;refine KM.mono ?_;rintro e w1 ⟨A1,c1,rfl,ho1,hb1⟩;have HO1:=hh_ ho1;clear e0 e1;replace HB:=hh_ (HB.keep hb1);replace HC:=hh_ (HC.keep hb1);clear hb1 ho1 KM;obtain⟨e0,e1⟩:=gc_ HC;go_wp2;go_loopw [8] (fun i wr=> ∃k:Nat,k<=l.length/\i=.int .i64 ((k+1:Nat):Int)/\Hid (∀j,j<k->flP l j=false)/\wr=w1) (fun i _=>l.length+3-(intOf i).toNat);case atStart=>exact⟨0,Nat.zero_le _,rfl,(fun j hj=>absurd hj (by omega)),by first|rfl|trivial⟩
 case round=>
  obtain⟨k,hk,rfl,hall,rfl⟩:=hrel;by_cases hlt:k+1<l.length
  ·obtain⟨g,rfl,_,_,_,hc,_⟩:=HO1.at_ (by omega);have p0:=hc k (by omega);have p1:=hc (k+1) (by omega);obtain⟨b0,hb0⟩: ∃b,b=l.getD k false:=⟨_,rfl⟩;obtain⟨b1,hb1⟩: ∃b,b=l.getD (k+1) false:=⟨_,rfl⟩;have q0:wr.cell? ⟨g,k,none⟩=some (.bool b0):=by rw[p0,hb0];rfl
   have q1:wr.cell? ⟨g,k+1,none⟩=some (.bool b1):=by rw[p1,hb1];rfl
   have Hd:Hid (flP l k=(b0&& !b1)):=by show _=_;rw[hb0,hb1];rfl
   have i1:((k+1:Nat):Int)<(l.length:Int):=by omega
   have i2:(k:Int)<l.length:=by omega
   have i3:(k:Int)+1<(l.length:Int):=by omega
   have w0:wrap64 (((k+1:Nat):Int)-1)=(k:Int):=by rw[Go.IntWalk.wrap64_in _ (by omega)];omega
   have w2:((k:Int)+1).toNat=k+1:=by omega
   have w3:(k:Int)+1-1=(k:Int):=by omega
   clear p0 p1 hc hb0 hb1;cases b0
   ·have Hn:=hh_ (Hd.trans (Bool.false_and _));clear Hd;go_wp2;go_roundw;case rel=>
     refine⟨k+1,by omega,by go_num,fun j hj=> ?_,by first|rfl|trivial⟩;by_cases hjk:j<k
     ·exact hall.out j hjk
     ·obtain rfl:j=k:=by omega
      exact Hn.out
    case measure=>simp[intOf]<;>omega
   ·cases b1
    ·have Hn:Hid (flI l=(k:Int)):=flI_some (lsK_yes (by omega) (Hd.trans rfl) hall.out);clear Hd;go_wp2;go_ret;exact⟨ret_int Hn.symm,HB.below⟩
    ·have Hn:Hid (flP l k=false):=Hd.trans rfl;clear Hd;go_wp2;go_roundw;case rel=>
      refine⟨k+1,by omega,by go_num,fun j hj=> ?_,by first|rfl|trivial⟩;by_cases hjk:j<k
      ·exact hall.out j hjk
      ·obtain rfl:j=k:=by omega
       exact Hn.out
     case measure=>simp[intOf]<;>omega
  ·have Hn:Hid (flI l= -1):=flI_none (lsK_no fun j hj=>hall.out j (by omega));have i1:(l.length:Int)<=((k+1:Nat):Int):=by omega
   have i2:(l.length:Int)<=(k:Int)+1:=by omega
   go_wp2;go_ret;exact⟨ret_int Hn.symm,HB.below⟩
abbrev xr (r:Nat->Nat):Nat->Int:=fun v=>(r v:Int)
def seB (r:Nat->Nat) (p:Nat×Nat):Bool:= !(r p.1).testBit p.2
noncomputable def seX (r:Nat->Nat) (m:Nat) (p:Nat×Nat):Nat->Int:=apX (seB r p) (m:Int) m (xr r) (p.1:Nat) (p.2:Nat)
noncomputable def seP (r:Nat->Nat) (m:Nat) (s:List UInt8) (p:Nat×Nat):Bool:=isB (m:Int) m (seX r m p) s
noncomputable def seR (r:Nat->Nat) (m:Nat) (s:List UInt8) (P:List (Nat×Nat)):List (Bool×Int×Int):=(P.filter (seP r m s)).map fun p=>(seB r p,(p.1:Int),(p.2:Int))
noncomputable def seV (r:Nat->Nat) (m:Nat) (s:List UInt8):List (Bool×Int×Int):=seR r m s (pr m)
noncomputable def seL (sz:Int) (m:Nat) (x:Nat->Int) (s:List UInt8):List (Bool×Int×Int):=if okB sz m x=true then seV (rw_ x) m s else []
section
variable {r:Nat->Nat} {m:Nat} {s:List UInt8} {P:List (Nat×Nat)} {p:Nat×Nat} {sz:Int} {x:Nat->Int} {n v u:Nat}
theorem seR_yes (h:seP r m s p=true):seR r m s (P++ [p])=seR r m s P++ [(seB r p,(p.1:Int),(p.2:Int))]:=by
 unfold seR;rw[List.filter_append];simp[h]
theorem seR_no (h:seP r m s p=false):seR r m s (P++ [p])=seR r m s P:=by
 unfold seR;rw[List.filter_append];simp[h]
theorem seR_step_yes (hu:v+1<=u) (h:seP r m s (v,u)=true):seR r m s (prTo n v (u+1))=seR r m s (prTo n v u)++ [(seB r (v,u),(v:Int),(u:Int))]:=by
 rw[prTo_step n v u hu];exact seR_yes h
theorem seR_step_no (hu:v+1<=u) (h:seP r m s (v,u)=false):seR r m s (prTo n v (u+1))=seR r m s (prTo n v u):=by
 rw[prTo_step n v u hu];exact seR_no h
theorem seR_len:(seR r m s P).length<=P.length:=by
 unfold seR;rw[List.length_map];exact List.length_filter_le _ _
theorem seL_no (h:okB sz m x=false):seL sz m x s= []:=by unfold seL;rw[h];rfl
theorem seL_yes (h:okB sz m x=true):seL sz m x s=seV (rw_ x) m s:=by unfold seL;rw[h];rfl
theorem seL_len:(seL sz m x s).length<=21:=by
 cases h:okB sz m x
 ·rw[seL_no h];simp
 ·rw[seL_yes h];obtain⟨_,_,vg,_⟩:=okB_ok h;exact Nat.le_trans seR_len (length_pr_le vg.n7)
end
section
variable {A:Option Addr} {m c:Nat} {r:Nat->Nat} {w:World}
theorem applied_v (h:GV w A m c r) (a:Bool) (v u:Nat):
 Calls Tryz.prog 38 #[.agg #[.int .i64 m,.slice A m c],.agg #[.bool a,.int .i64 v,.int .i64 u]] w fun e w'=> ∃A' c',e=.returned (.tuple #[.agg #[.int .i64 m,.slice A' m c'],.bool (apB a m m (xr r) v u)])/\GA w' A' m c' (apX a m m (xr r) v u)/\Below w.heap.size w w':=
 (applied_i m A m c _ a v u w w.heap.size h.rd nr_ (by have:=h.vg.n7;omega) h.ok).mono fun _ _ ⟨A',c',h1,h2,h3⟩=>⟨A',c',h1,⟨h2.rd⟩,h3⟩
theorem l32Apply_v (h:GV w A m c r) (a:Bool) (v u:Nat):
 Calls Tryz.prog 41 #[.agg #[.int .i64 m,.slice A m c],.agg #[.bool a,.int .i64 v,.int .i64 u]] w fun e w'=> ∃A' c',e=.returned (.tuple #[.agg #[.int .i64 m,.slice A' m c'],.bool (apB a m m (xr r) v u)])/\Own w' w.heap.size w'.heap.size 3 1 A' m c' (fun j=> .int .i64 (apX a m m (xr r) v u j))/\Below w.heap.size w w':=
 l32Apply_s m A m c _ a v u w w.heap.size h.rd nr_ (by have:=h.vg.n7;omega)
end
end Go.Proofs.YtfabbohijhjpcaaGreatDoor
