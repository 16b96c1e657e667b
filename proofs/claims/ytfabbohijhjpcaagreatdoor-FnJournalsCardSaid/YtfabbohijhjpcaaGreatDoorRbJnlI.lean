/- Lemmas. -/
import Derived.Test.YtfabbohijhjpcaaGreatDoorRbRemEdgeS
import Derived.Test.YtfabbohijhjpcaaGreatDoorRbApplyI
/-
-/
namespace Go.Proofs.YtfabbohijhjpcaaGreatDoor
open Go.RowKit
set_option maxHeartbeats 1600000
theorem l32Apply_s (sz:Int) (A:Option Addr) (m c:Nat) (x:Nat->Int) (a:Bool) (v u:Int) (w:World) (B:Nat) (h:Rd w B A m c x) (hB:B<=w.heap.size) (hm:m<=1048576):
 Calls Tryz.prog 41 #[.agg #[.int .i64 sz,.slice A m c],.agg #[.bool a,.int .i64 v,.int .i64 u]] w fun e w'=> ∃A' c',e=.returned (.tuple #[.agg #[.int .i64 sz,.slice A' m c'],.bool (apB a sz m x v u)])/\Own w' w.heap.size w'.heap.size 3 1 A' m c' (fun j=> .int .i64 (apX a sz m x v u j))/\Below w.heap.size w w':=by
 obtain⟨W,hW⟩: ∃W,W=(((w.alloc (Obj.cells #[.int .i64 sz,.slice A m c] 26)).alloc (Obj.cells #[.bool a,.int .i64 v,.int .i64 u] 48)).alloc (Obj.cells #[.int .i64 0,.slice none 0 0] 26)):=⟨_,rfl⟩;have HB:Hid (From w W):=by rw[hW];exact(((From.alloc _ _).alloc_ _).alloc_ _)
 have HZ:Hid (w.heap.size+3=W.heap.size):=by rw[hW];simp[Hid]
 have HC:Hid (GC W (w.heap.size+2) 0 none 0 0):=by rw[hW];constructor<;>simp[go_sem]
 have HK:=hh_ (h.keep (HB.below.mono hB) nr_);have HW:=hh_ hW;clear hW h;cases a
 all_goals
  go_enter Tryz.func41,Tryz.ntmps41;go_wp2_with fail
  rw[<-HW.out];clear HW;first
   |(refine(RemoveEdge_s sz A m c x v u W B HK (by have:=HZ.out;omega) hm).mono ?_
     rintro e w1 ⟨A',c',rfl,hO,hb1⟩;have e1:apB false sz m x v u=reB sz m x v u:=rfl;have e2:apX false sz m x v u=reX sz m x v u:=rfl;rw[<-e1];rw[<-e2] at hO;clear e1 e2)
   |(refine(AddEdge_s sz A m c x v u W B HK (by have:=HZ.out;omega) hm).mono ?_
     rintro e w1 ⟨A',c',rfl,hO,hb1⟩;have e1:apB true sz m x v u=aeB sz m x v u:=rfl;have e2:apX true sz m x v u=aeX sz m x v u:=rfl;rw[<-e1];rw[<-e2] at hO;clear e1 e2)
  have HC1:=hh_ (HC.keep hb1);have HB1:=hh_ (HB.keep hb1);have HO:=hh_ hO;have zs:=hb1.size;have k0:=HC1.c0;have k1:=HC1.c1;have k2:=HC1.f0;have k3:=HC1.f1;have k4:=HC1.lt;clear hO hb1 HC HB HK;go_wp2;have F:=fr2 w1 (w.heap.size+2) (Value.int .i64 sz) (Value.slice A' m c');have O1:=((HO.keep F (.inr (by have:=HZ.out;omega))).alloc (Obj.cells #[.int .i64 sz,.slice A' m c'] 26));have B1:=((HB1.set (q:=w.heap.size+2) (by omega) (Value.int .i64 sz) (Value.slice A' m c')).alloc_ (Obj.cells #[.int .i64 sz,.slice A' m c'] 26)).below;exact bodyPost_ret (v:=.tuple #[.agg #[.int .i64 sz,.slice A' m c'],_]) (by simp[results,Tryz.results41,go_sem, *]<;>rfl) rfl ⟨A',c',rfl,O1.mono (by have:=HZ.out;omega) (by simp[World.setCell]),B1⟩
set_option maxRecDepth 100000 in
theorem ApplyEdits_s (sz:Int) (A:Option Addr) (m c:Nat) (x:Nat->Int) (Al:Option Addr) (n cl:Nat) (a:Nat->Bool) (v u:Nat->Int) (w:World) (B:Nat) (h:Rd w B A m c x) (hl:RdE w B Al n cl a v u) (hB:B<=w.heap.size) (hm:m<=1048576) (hn:n<=1048576):
 Calls Tryz.prog 8 #[.agg #[.int .i64 sz,.slice A m c],.slice Al n cl] w fun e w'=> ∃A' c',e=.returned (.tuple #[.agg #[.int .i64 (apZ sz m x n a v u),.slice A' (apN sz m x n a v u) c'],.bool (apD sz m x n a v u)])/\Own w' w.heap.size w'.heap.size 3 1 A' (apN sz m x n a v u) c' (fun j=> .int .i64 (apY sz m x n a v u j))/\Below w.heap.size w w':=by
 obtain⟨W,hW⟩: ∃W,W=((w.alloc (Obj.cells #[.int .i64 sz,.slice A m c] 26)).alloc (Obj.cells #[.int .i64 0,.slice none 0 0] 26)):=⟨_,rfl⟩;have HB:Hid (From w W):=by rw[hW];exact((From.alloc _ _).alloc_ _)
 have HZ:Hid (w.heap.size+2=W.heap.size):=by rw[hW];simp[Hid]
 have HC:Hid (GC W (w.heap.size+1) 0 none 0 0):=by rw[hW];constructor<;>simp[go_sem]
 have HG:Hid (GC W w.heap.size sz A m c):=by rw[hW];constructor<;>simp[go_sem]
 have HK:Hid (Rd W W.heap.size A m c x):=h.keep (HB.below.mono hB) (by have:=HB.below.size;omega);have HD:Hid (ED W Al n cl a v u):=⟨hl.keep (HB.below.mono hB) (by have:=HB.below.size;omega)⟩;have HW:=hh_ hW;have hfin: ∀(z:World),apR sz m x n a v u=none->From w z-> ∃A' c',Ending.returned (.tuple #[.agg #[.int .i64 0,.slice none 0 0],.bool false])=.returned (.tuple #[.agg #[.int .i64 (apZ sz m x n a v u),.slice A' (apN sz m x n a v u) c'],.bool (apD sz m x n a v u)])/\Own z w.heap.size z.heap.size 3 1 A' (apN sz m x n a v u) c' (fun j=> .int .i64 (apY sz m x n a v u j))/\Below w.heap.size w z:=by
  intro z hr hf;obtain⟨h1,h2,h3⟩:=ap_none hr;exact⟨none,0,by rw[h1,h2,h3],by rw[h2];exact Own.nil _ _ _ _ _ _,hf.below⟩
 have HFIN:=hh_ hfin;obtain⟨e0,e1⟩:=gc_ HG;clear hW h hl hfin;go_enter Tryz.func8,Tryz.ntmps8;go_wp2_with fail
 rw[<-HW.out];clear HW;refine(IsGraph_sany sz A m c x W W.heap.size HK nr_ hm).mono ?_;rintro e w1 ⟨rfl,hb1⟩;clear e0 e1;have z1:=hb1.size;replace HB:=hh_ (HB.keep hb1);replace HC:=hh_ (HC.keep hb1);replace HG:=hh_ (HG.keep hb1);replace HD:=hh_ (HD.keep hb1);have HK1:Hid (Rd w1 w1.heap.size A m c x):=HK.keep hb1 z1;obtain⟨e0,e1⟩:=gc_ HG;clear hb1 HK;cases ho:okB sz m x
 ·have hr:Hid (apR sz m x n a v u=none):=apR_no ho;have k0:=HC.c0;have k1:=HC.c1;have k2:=HC.f0;have k3:=HC.f1;clear ho;go_wp2;exact bodyPost_ret (v:=.tuple #[.agg #[.int .i64 0,.slice none 0 0],.bool false]) (by simp[results,Tryz.results8,go_sem, *]) rfl (HFIN.out _ hr.out (HB.set (q:=w.heap.size+1) (by omega) _ _))
 by_cases h12:12<n
 ·have hr:Hid (apR sz m x n a v u=none):=apR_long h12;have i1:(12:Int)<n:=by omega
  have k0:=HC.c0;have k1:=HC.c1;have k2:=HC.f0;have k3:=HC.f1;clear ho;go_wp2;exact bodyPost_ret (v:=.tuple #[.agg #[.int .i64 0,.slice none 0 0],.bool false]) (by simp[results,Tryz.results8,go_sem, *]) rfl (HFIN.out _ hr.out (HB.set (q:=w.heap.size+1) (by omega) _ _))
 have hr:Hid (apR sz m x n a v u=apF sz m a v u 0 n x):=apR_yes ho (by omega);have Ho:=hh_ ho;have i1:(n:Int)<=12:=by omega
 clear ho;go_wp2_with fail
 refine(l2Copy_any sz A m c x w1 w1.heap.size HK1 nr_ hm).mono ?_;rintro e w2 ⟨A',c',rfl,hO,hb2⟩;clear e0 e1;have z2:=hb2.size;replace HB:=hh_ (HB.keep hb2);replace HC:=hh_ (HC.keep hb2);replace HD:=hh_ (HD.keep hb2);have HO:Hid (Own w2 (w.heap.size+2) w2.heap.size 3 1 A' m c' (fun j=> .int .i64 (x j))):=hO.mono (by have:=HZ.out;omega) nr_;have zw:w.heap.size+2<=w2.heap.size:=by have:=HZ.out;omega
 clear hO hb2 HK1 HG;go_wp2;go_loopw [7] (fun i wr=> ∃(k:Nat) (A4:Option Addr) (c4:Nat) (y:Nat->Int),k<=n/\i=.int .i64 k/\Hid (GC wr w2.heap.size sz A4 m c4)/\Hid (Own wr (w.heap.size+2) wr.heap.size 3 1 A4 m c4 (fun j=> .int .i64 (y j)))/\Hid (okB sz m y=true)/\Hid (apR sz m x n a v u=apF sz m a v u k (n-k) y)/\Hid (From w2 wr)) (fun i _=>n-(intOf i).toNat);case atStart=>exact⟨0,A',c',x,Nat.zero_le _,rfl,GC.new _ _ _ _ _,(HO.alloc _).mono nr_ (by simp),Ho,hr,From.alloc _ _⟩
 case round=>
  obtain⟨k,A4,c4,y,hk,rfl,HQ,HY,Hy,HR,HF⟩:=hrel;have zr:=HF.below.size;have HBr:=hh_ (HB.keep HF.below);have HCr:=hh_ (HC.keep HF.below);have q0:=HQ.c0;have q1:=HQ.c1;have zq:=HQ.lt;by_cases hlt:k<n
  ·have HDr:=hh_ (HD.keep HF.below);obtain⟨b,o,rfl⟩:=HDr.addr (by omega);obtain⟨p0,p1,p2⟩:=HDr.at hlt;have hap:apF sz m a v u k (n-k) y=if apB (a k) sz m y (v k) (u k)=true then apF sz m a v u (k+1) (n-(k+1)) (apX (a k) sz m y (v k) (u k)) else none:=by
    obtain⟨r,hr⟩: ∃r,n-k=r+1:=⟨n-k-1,by omega⟩;have:n-(k+1)=r:=by omega
    rw[hr,this,apF]
   have Hap:=hh_ hap;obtain⟨t,ht⟩: ∃t,t=apB (a k) sz m y (v k) (u k):=⟨_,rfl⟩;have Ht:=hh_ ht;have i2:(k:Int)<n:=by omega
   have HRY:Hid (Rd wr wr.heap.size A4 m c4 y):=HY.rd;clear hap ht HDr;have HSC:Hid (∀z:World,Below wr.heap.size wr z->(Below wr.heap.size wr z/\z.cell? ⟨b,o+k*3,none⟩=some (.bool (a k))/\z.cell? ⟨b,o+k*3+1,none⟩=some (.int .i64 (v k))/\z.cell? ⟨b,o+k*3+2,none⟩=some (.int .i64 (u k))/\z.cell? ⟨w2.heap.size,0,none⟩=some (.int .i64 sz)/\z.cell? ⟨w2.heap.size,1,none⟩=some (.slice A4 m c4))):=fun z hz=>⟨hz,up_ hz p0,up_ hz p1,up_ hz p2,up_ hz q0,up_ hz q1⟩
   have HZ1:Hid (Below wr.heap.size wr wr.drew):=br_.drew;have HZ2:Hid (Below wr.heap.size wr ((wr.alloc (Obj.cells #[.int .i64 0,.slice none 0 0] 26)).drew)):=(br_.alloc nr_ _).drew;have HN2:Hid (GC ((wr.alloc (Obj.cells #[.int .i64 0,.slice none 0 0] 26)).drew) wr.heap.size 0 none 0 0):=(GC.new _ _ _ _ _).drew;have KR:Hid (∀z:World,Below wr.heap.size wr z->_):=fun z hz=>l32Apply_s sz A4 m c4 y (a k) (v k) (u k) z z.heap.size (HRY.keep hz hz.size) nr_ hm
   have HS1:=hh_ (HSC.out _ HZ1.out);have HS2:=hh_ (HSC.out _ HZ2.out);go_wp2;go_region_held3 (fun z=>Below wr.heap.size wr z/\z.cell? ⟨b,o+k*3,none⟩=some (.bool (a k))/\z.cell? ⟨b,o+k*3+1,none⟩=some (.int .i64 (v k))/\z.cell? ⟨b,o+k*3+2,none⟩=some (.int .i64 (u k))/\z.cell? ⟨w2.heap.size,0,none⟩=some (.int .i64 sz)/\z.cell? ⟨w2.heap.size,1,none⟩=some (.slice A4 m c4))
    (first|exact HS1.out|exact HS2.out|assumption|(refine HSC.out _ ?_;first|assumption|exact bl_trans HZ1.out hb5|exact bl_trans HZ2.out hb5|exact bl_alloc (bl_trans HZ1.out hb5)|exact bl_set (bl_trans HZ2.out hb5) nr_|exact bl_set (bl_set (bl_trans HZ2.out hb5) nr_) nr_|exact bl_alloc HZ1.out)|fail)
    (first|(go_at_call 41;((with_reducible refine(KR.out _ HZ1.out).mono ?_);rintro e w5 ⟨A5,c5,rfl,hO5,hb5⟩))|(go_at_call 41;((with_reducible refine(KR.out _ HZ2.out).mono ?_);rintro e w5 ⟨A5,c5,rfl,hO5,hb5⟩;have hn5:=HN2.out.keep hb5;have n0:=hn5.c0;have n1:=hn5.c1;have n2:=hn5.f0;have n3:=hn5.f1)))
   all_goals
    first
     |(obtain⟨W5,hW5⟩: ∃W5,W5=((w5.setCell ⟨wr.heap.size,0,none⟩ (.int .i64 sz)).setCell ⟨wr.heap.size,1,none⟩ (.slice A5 m c5)):=⟨_,rfl⟩
       rw[<-hW5];have HQ5:Hid (GC W5 wr.heap.size sz A5 m c5):=by rw[hW5];exact hn5.set
       have HZ5:Hid (Below wr.heap.size wr W5):=by rw[hW5];exact bl_set (bl_set (bl_trans HZ2.out hb5) nr_) nr_
       have HO5:Hid (Own W5 wr.heap.size W5.heap.size 3 1 A5 m c5 (fun j=> .int .i64 (apX (a k) sz m y (v k) (u k) j))):=by
        rw[hW5];exact(hO5.keep (fr2 _ wr.heap.size _ _) (.inr (by show wr.heap.size+1<=(wr.alloc _).heap.size;simp))).mono (Nat.le_of_lt (by show wr.heap.size<(wr.alloc _).heap.size;simp)) (by simp[World.setCell])
       clear hW5 hn5 n0 n1 n2 n3 hO5 hb5)
     |(obtain⟨W5,hW5⟩: ∃W5,W5=(w5.alloc (Obj.cells #[.int .i64 sz,.slice A5 m c5] 26)):=⟨_,rfl⟩
       rw[<-hW5];have HQ5:Hid (GC W5 w5.heap.size sz A5 m c5):=by rw[hW5];exact GC.new _ _ _ _ _
       have HZ5:Hid (Below wr.heap.size wr W5):=by rw[hW5];exact bl_alloc (bl_trans HZ1.out hb5)
       have HO5:Hid (Own W5 wr.heap.size W5.heap.size 3 1 A5 m c5 (fun j=> .int .i64 (apX (a k) sz m y (v k) (u k) j))):=by rw[hW5];exact(hO5.alloc _).mono nr_ (by simp)
       clear hW5 hO5 hb5)
     |fail
   all_goals clear HSC HZ1 HZ2 HN2 KR HS1 HS2
   all_goals
    have HQ6:=hh_ (HQ.keep HZ5.out);have HB6:=hh_ (HBr.keep HZ5.out);have HC6:=hh_ (HCr.keep HZ5.out);have HF6:=hh_ (HF.keep HZ5.out);have z6:=HZ5.size;rw[<-Ht.out];clear q0 q1 p0 p1 p2 HBr HCr;have m0:=HQ5.c0;have m1:=HQ5.c1;cases t
    ·have hn:Hid (apR sz m x n a v u=none):=by show _=_;rw[HR.out,Hap.out,<-Ht.out];rfl
     have k0:=HC6.c0;have k1:=HC6.c1;have k2:=HC6.f0;have k3:=HC6.f1;have k4:=HC6.lt;go_wp2;exact bodyPost_ret (v:=.tuple #[.agg #[.int .i64 0,.slice none 0 0],.bool false]) (by simp[results,Tryz.results8,go_sem,k0,k1]) rfl (HFIN.out _ hn.out (HB6.set (q:=w.heap.size+1) (by omega) _ _))
    ·have hn:Hid (apR sz m x n a v u=apF sz m a v u (k+1) (n-(k+1)) (apX (a k) sz m y (v k) (u k))):=by show _=_;rw[HR.out,Hap.out,<-Ht.out];rfl
     have Hy2:Hid (okB sz m (apX (a k) sz m y (v k) (u k))=true):=apX_ok Hy.out;have k0:=HQ6.c0;have k1:=HQ6.c1;have k2:=HQ6.f0;have k3:=HQ6.f1;have k4:=HQ6.lt;clear HC6 HB6;go_wp2;go_roundw;case rel=>exact⟨k+1,A5,c5,_,by omega,by go_num,HQ6.set,(HO5.keep (fr2 _ w2.heap.size _ _) (.inr (by omega))).mono (by omega) (by simp[World.setCell]),Hy2,hn,HF6.set nr_ _ _⟩
     case measure=>simp[intOf];omega
  ·have hke:n-k=0:=by omega
   have hs:Hid (apR sz m x n a v u=some y):=by show _=_;rw[HR.out,hke];rfl
   have i2:(n:Int)<=k:=by omega
   have k0:=HCr.c0;have k1:=HCr.c1;have k2:=HCr.f0;have k3:=HCr.f1;clear hke;go_wp2;have F:=fr2 wr (w.heap.size+1) (Value.int .i64 sz) (Value.slice A4 m c4);have O1:=(HY.keep F (.inr nr_)).mono (lo':=w.heap.size) (by omega) F.size;obtain⟨h1,h2,h3,h4⟩:=ap_some hs.out;exact bodyPost_ret (v:=.tuple #[.agg #[.int .i64 sz,.slice A4 m c4],.bool true]) (by simp[results,Tryz.results8,go_sem,k0,k1]) rfl ⟨A4,c4,by rw[h1,h2,h3],by rw[h2,h4];exact O1,(HBr.set (q:=w.heap.size+1) (by omega) _ _).below⟩
noncomputable def apS (sz:Int) (m:Nat) (a:Nat->Bool) (v u:Nat->Int):Nat->Nat->(Nat->Int)->(Nat->Int)
 |_,0,x=>x
 |k,i+1,x=>apS sz m a v u (k+1) i (apX (a k) sz m x (v k) (u k))
section
variable {sz:Int} {m n:Nat} {a:Nat->Bool} {v u:Nat->Int} {x y:Nat->Int} {s:List UInt8}
theorem apS_snoc: ∀i k (x:Nat->Int),apS sz m a v u k (i+1) x=apX (a (k+i)) sz m (apS sz m a v u k i x) (v (k+i)) (u (k+i))
 |0,_,_=>rfl
 |i+1,k,x=>by
  have h:=apS_snoc i (k+1) (apX (a k) sz m x (v k) (u k))
  rw[show k+1+i=k+(i+1) by omega] at h
  exact h
theorem apF_pre: ∀r k (x y:Nat->Int),apF sz m a v u k r x=some y-> ∀i,i<=r->apF sz m a v u k i x=some (apS sz m a v u k i x)
 |0,k,x,y,h,i,hi=>by
  obtain rfl:i=0:=by omega
  rfl
 |r+1,k,x,y,h,i,hi=>by
  cases hb:apB (a k) sz m x (v k) (u k)
  ·rw[apF_no hb] at h;cases h
  ·rw[apF_yes hb] at h
   cases i with
   |zero=>rfl
   |succ i=>
    rw[apF_yes hb,apS]
    exact apF_pre r _ _ _ h i (by omega)
theorem apR_parts (h:apR sz m x n a v u=some y):okB sz m x=true/\n<=12/\apF sz m a v u 0 n x=some y:=by
 unfold apR at h;split at h
 ·rename_i hh;exact⟨hh.1,hh.2,h⟩
 ·cases h
theorem apR_pre (h:apR sz m x n a v u=some y) {i:Nat} (hi:i<=n):apR sz m x i a v u=some (apS sz m a v u 0 i x):=by
 obtain⟨h1,h2,h3⟩:=apR_parts h;rw[apR_yes h1 (by omega)];exact apF_pre n 0 x y h3 i hi
noncomputable def meV (sz:Int) (m:Nat) (x:Nat->Int) (a:Nat->Bool) (v u:Nat->Int) (s:List UInt8) (k:Nat):List Bool:=(List.range k).map fun i=>isB sz m (apS sz m a v u 0 i x) s
noncomputable def meL (sz:Int) (m:Nat) (x:Nat->Int) (n:Nat) (a:Nat->Bool) (v u:Nat->Int) (s:List UInt8):List Bool:=if apD sz m x n a v u=true then meV sz m x a v u s (n+1) else []
theorem meV_succ (k:Nat):meV sz m x a v u s (k+1)=meV sz m x a v u s k++ [isB sz m (apS sz m a v u 0 k x) s]:=by
 unfold meV;rw[List.range_succ,List.map_append];rfl
theorem meV_len (k:Nat):(meV sz m x a v u s k).length=k:=by unfold meV;simp
theorem meL_no (h:apR sz m x n a v u=none):meL sz m x n a v u s= []:=by unfold meL;rw[(ap_none h).1];rfl
theorem meL_yes (h:apR sz m x n a v u=some y):meL sz m x n a v u s=meV sz m x a v u s (n+1):=by unfold meL;rw[(ap_some h).1];rfl
theorem meL_len:(meL sz m x n a v u s).length<=13:=by
 cases h:apR sz m x n a v u
 ·rw[meL_no h];simp
 ·rw[meL_yes h,meV_len];have:=(apR_parts h).2.1;omega
end
def blL (l:List Bool) (j:Nat):Value:=.bool (l.getD j false)
theorem blL_left {l:List Bool} {k:Bool} {j:Nat} (h:j<l.length):blL (l++ [k]) j=blL l j:=by
 unfold blL;simp[List.getD,List.getElem?_append_left h]
theorem blL_news {l:List Bool} {k:Bool}: ∀i,i<1->(#[.bool k]:Array Value)[i]? =some (blL (l++ [k]) (l.length*1+i)):=by
 intro i hi;have h0:i=0:=by omega
 subst h0;unfold blL;simp[List.getD]
theorem wpList_pushBl (W:World) {ops:Array Oper} {rest:List Oper} {o:Oper} {a:Act} {Q:Exit->Act->World->Prop} (hgd:o.guard=none) (s y:Operand)
 (ho:o.op=.call {callee:=.builtin .append,args:= #[s,y],argTypes:= #[40,40]})
 (g c:Nat) (T:List Bool) (h:Own W g (g+1) 4 1 (some ⟨g,0,none⟩) T.length c (blL T)) (hg:g<W.heap.size) (k:Bool) (hs:a.eval s=.slice (some ⟨g,0,none⟩) T.length c) (cx H:Nat) (hH:W.heap.size=H) (hy:a.eval y=.slice (some ⟨H,0,none⟩) 1 cx)
 (hn:T.length<=1073741824)
 (hK: ∀g' cap w',Own w' g' (g'+1) 4 1 (some ⟨g',0,none⟩) (T.length+1) cap (blL (T++ [k]))->(g'=g\/W.heap.size<g')->g'<w'.heap.size->Fr g (g+1) W w'->wpList Tryz.prog ops Q rest (a.put o.dst (.slice (some ⟨g',0,none⟩) (T.length+1) cap)) w'):
 wpList Tryz.prog ops Q (o::rest) a (W.alloc (Obj.cells #[.bool k] 4)):=by
 subst hH;have ha:=h.alloc (Obj.cells #[.bool k] 4);refine wpList_push (W.alloc (Obj.cells #[.bool k] 4)) hgd s y 40 ho 4 _ 1 1 Tryz.underlying40 info_bool rfl (by omega) g (g+1) (some ⟨g,0,none⟩) T.length c (blL (T++ [k])) hs
  (ha.congr (fun j hj=>(blL_left (by omega)).symm)) (by simp;omega) W.heap.size #[.bool k] 4 (0,0) cx (heap_alloc_new W _) hy rfl blL_news (by simp[Value.oneCell']) hn (by omega) ?_
 intro g' cap w' hp;obtain⟨h1,h2,h3,h4⟩:=hp.caged;exact hK g' cap w' h1 (h2.imp id (fun h=>by rw[h];simp)) h3 (((Fr.refl g (g+1) W).alloc _).trans h4)
set_option maxHeartbeats 3200000
theorem ED.pre {w:World} {A:Option Addr} {n c k:Nat} {a:Nat->Bool} {v u:Nat->Int} (h:ED w A n c a v u) (hk:k<=n):ED w A k c a v u:=
 ⟨⟨Nat.le_trans hk h.rd.1,fun h0=>by
   obtain⟨b,o,e,l,hc⟩:=h.rd.2 (by omega)
   exact⟨b,o,e,l,fun j hj=>hc j (by omega)⟩⟩⟩
theorem bl_nil (w:World):Own (w.alloc (Obj.cells #[] 4)) w.heap.size (w.heap.size+1) 4 1 (some ⟨w.heap.size,0,none⟩) 0 0 (blL []):=
 .inr ⟨w.heap.size,#[],rfl,nr_,Nat.lt_succ_self _,heap_alloc_new w _,nr_,by unfold maxLen;omega,rfl,fun j hj=>absurd hj (by omega)⟩
def meQ (w:World) (l:List Bool) (e:Ending) (w':World):Prop:=
 ∃A' c',e=.returned (.slice A' l.length c')/\Own w' w.heap.size w'.heap.size 4 1 A' l.length c' (blL l)/\Below w.heap.size w w'
section
variable (sz:Int) (A:Option Addr) (m c:Nat) (x:Nat->Int) (Al:Option Addr) (n cl:Nat) (a:Nat->Bool) (v u:Nat->Int) (str:ByteArray) (w:World)
set_option maxRecDepth 100000 in
theorem MembershipOf_i (h:GA w A m c x) (hl:ED w Al n cl a v u) (hm:m<=1048576) (hn:n<=1048576):
 Calls Tryz.prog 15 #[.agg #[.int .i64 sz,.slice A m c],.slice Al n cl,.string str] w (meQ w (meL sz m x n a v u str.toList)):=by
 obtain⟨W,hW⟩: ∃W,W=((w.alloc (Obj.cells #[.int .i64 sz,.slice A m c] 26)).alloc (Obj.cells #[] 4)):=⟨_,rfl⟩;have HB:Hid (From w W):=by rw[hW];exact(From.alloc _ _).alloc_ _
 have HK:=hh_ (h.keep HB.below);have HD:=hh_ (hl.keep HB.below);have HC:Hid (GC W w.heap.size sz A m c):=by rw[hW];exact(GC.new _ _ _ _ _).keep (br_.alloc nr_ _)
 have hzW:W.heap.size=w.heap.size+2:=by rw[hW];simp
 have HO:Hid (Own W (w.heap.size+1) (w.heap.size+1+1) 4 1 (some ⟨w.heap.size+1,0,none⟩) 0 0 (blL [])):=by
  rw[hW];have:=bl_nil (w.alloc (Obj.cells #[.int .i64 sz,.slice A m c] 26));have e:(w.alloc (Obj.cells #[.int .i64 sz,.slice A m c] 26)).heap.size=w.heap.size+1:=by simp
  rw[e] at this;exact this
 have HW:=hh_ hW;have HKw:=hh_ h;have HDw:=hh_ hl;clear hW h hl;go_enter Tryz.func15,Tryz.ntmps15;obtain⟨e0,e1⟩:=gc_ HC;go_wp2_with fail
 rw[<-HW.out];clear HW;refine(ApplyEdits_i sz A m c x Al n cl a v u W W.heap.size HK.rd HD.rd nr_ hm hn).mono ?_;rintro e w1 ⟨A1,c1,rfl,ho1,hb1⟩;have HO1:=hh_ (HO.keepB hb1 (by omega));have hz1:=hb1.size;clear e0 e1;replace HB:=hh_ (HB.keep hb1);replace HK:=hh_ (HK.keep hb1);replace HD:=hh_ (HD.keep hb1);replace HC:=hh_ (HC.keep hb1);clear hb1 ho1 HO;obtain⟨e0,e1⟩:=gc_ HC;cases hr:apR sz m x n a v u with
 |none=>
  obtain⟨d1,d2,d3⟩:=ap_none hr;have Hn:Hid (meL sz m x n a v u str.toList= []):=meL_no hr;rw[d1,d2,d3];clear hr d1 d2 d3;have HBz:=hh_ (HB.alloc_ (Obj.cells #[.int .i64 0,.slice A1 0 c1] 26));have HOz:=hh_ ((HO1.alloc (Obj.cells #[.int .i64 0,.slice A1 0 c1] 26)).mono (lo':=w.heap.size) (hi':=(w1.alloc (Obj.cells #[.int .i64 0,.slice A1 0 c1] 26)).heap.size) (by omega) (by simp;omega));go_wp2;go_ret;rw[Hn.out];exact⟨_,_,rfl,HOz.out,HBz.below⟩
 |some y=>
  obtain⟨d1,d2,d3,_⟩:=ap_some hr;obtain⟨hok,hn12,_⟩:=apR_parts hr;have Hn:Hid (meL sz m x n a v u str.toList=meV sz m x a v u str.toList (n+1)):=meL_yes hr;have Hpre:Hid (∀i,i<=n->apR sz m x i a v u=some (apS sz m a v u 0 i x)):=fun i hi=>apR_pre hr hi
  rw[d1,d2,d3];clear hr d1 d2 d3 hok;have hHB:=HB;obtain⟨W2,hW2⟩: ∃W2,W2=w1.alloc (Obj.cells #[.int .i64 sz,.slice A1 m c1] 26):=⟨_,rfl⟩;have hb2:Below w1.heap.size w1 W2:=by rw[hW2];exact br_.alloc nr_ _
  have HO2:Hid (Own W2 (w.heap.size+1) (w.heap.size+1+1) 4 1 (some ⟨w.heap.size+1,0,none⟩) 0 0 (blL (meV sz m x a v u str.toList 0))):=HO1.keepB hb2 (by omega);have hz2:=hb2.size;have HW2:=hh_ hW2;clear hW2 HO1 hHB;clear e0 e1;replace HB:=hh_ (HB.keep hb2);replace HK:=hh_ (HK.keep hb2);replace HD:=hh_ (HD.keep hb2);replace HC:=hh_ (HC.keep hb2);clear hb2;obtain⟨e0,e1⟩:=gc_ HC;go_wp2_with fail
  rw[<-HW2.out];clear HW2;go_loopw [7,26] (fun o i wr=> ∃(k c' g:Nat),k<=n+1/\i=.int .i64 k/\o=.slice (some ⟨g,0,none⟩) k c'/\w.heap.size<g/\g<wr.heap.size/\Hid (Own wr g (g+1) 4 1 (some ⟨g,0,none⟩) k c' (blL (meV sz m x a v u str.toList k)))/\Hid (From w wr)/\Hid (GC wr w.heap.size sz A m c)) (fun _ i _=>n+1-(intOf i).toNat);case atStart=>exact⟨0,0,w.heap.size+1,by omega,rfl,rfl,by omega,by omega,HO2,HB,HC⟩
  case round=>
   clear HO2 HB HK HC HD e0 e1;obtain⟨k,c',g,hk,rfl,rfl,hg1,hg2,HO,HB,HC⟩:=hrel;have hbk:Below w.heap.size w wr:=HB.below;by_cases hkn:k<=n
   ·have i1:(k:Int)<n+1:=by omega
    have HK:=hh_ (HKw.keep hbk);have HD:=hh_ (HDw.keep hbk);have hcl:n<=cl:=HD.rd.1;obtain⟨y,hy⟩: ∃y,y=apS sz m a v u 0 k x:=⟨_,rfl⟩;have KA:Hid (∀z:World,Below wr.heap.size wr z->Calls Tryz.prog 7 #[.agg #[.int .i64 sz,.slice A m c],.slice Al k cl] z fun e w'=> ∃A' c',e=.returned (.tuple #[.agg #[.int .i64 sz,.slice A' m c'],.bool true])/\Own w' z.heap.size w'.heap.size 3 1 A' m c' (fun j=> .int .i64 (y j))/\Below z.heap.size z w'):=fun z hz=>by
     have hk2:=ApplyEdits_i sz A m c x Al k cl a v u z z.heap.size (HK.keep hz).rd ((HD.keep hz).pre hkn).rd nr_ hm (by omega);obtain⟨q1,q2,q3,q4⟩:=ap_some (Hpre.out k hkn);rw[q1,q2,q3,q4,<-hy] at hk2;exact hk2
    obtain⟨b,hb⟩: ∃b,b=isB sz m y str.toList:=⟨_,rfl⟩;have KI:Hid (∀ {z:World} {A':Option Addr} {c':Nat},GA z A' m c' y->Calls Tryz.prog 47 #[.agg #[.int .i64 sz,.slice A' m c'],.string str] z fun e w'=>e=.returned (.bool b)/\Below z.heap.size z w'):=by rw[hb];exact fun h=>IsIn_i sz _ m _ y str _ h hm
    obtain⟨T,hT⟩: ∃T,T=meV sz m x a v u str.toList k:=⟨_,rfl⟩;have Hs:Hid (meV sz m x a v u str.toList (k+1)=T++ [b]):=by show _=_;rw[hT,hb,hy];exact meV_succ k
    have hTl:T.length=k:=by rw[hT,meV_len]
    rw[<-hT] at HO;clear hT hy hb;subst hTl;have HOq:=HO;have HX:Hid (From wr wr):=From.refl _;have i2:T.length<=cl:=by omega
    obtain⟨e0,e1⟩:=gc_ HC;have HSC:Hid (∀z:World,Below wr.heap.size wr z->(Below wr.heap.size wr z/\z.cell? ⟨w.heap.size,0,none⟩=some (.int .i64 sz)/\z.cell? ⟨w.heap.size,1,none⟩=some (.slice A m c))):=fun z hz=>⟨hz,up_ hz e0,up_ hz e1⟩
    have HZ1:Hid (Below wr.heap.size wr wr.drew):=br_.drew;have HZ2:Hid (Below wr.heap.size wr ((wr.alloc (Obj.cells #[.int .i64 0,.slice none 0 0] 26)).drew)):=(br_.alloc nr_ _).drew;have HN2:Hid (GC ((wr.alloc (Obj.cells #[.int .i64 0,.slice none 0 0] 26)).drew) wr.heap.size 0 none 0 0):=(GC.new _ _ _ _ _).drew;have KR1:Hid (∀z:World,Below wr.heap.size wr z->_):=fun z hz=>KA.out z hz
    have HS1:=hh_ (HSC.out _ HZ1.out);have HS2:=hh_ (HSC.out _ HZ2.out);go_wp2;go_region_held3 (fun z=>Below wr.heap.size wr z/\z.cell? ⟨w.heap.size,0,none⟩=some (.int .i64 sz)/\z.cell? ⟨w.heap.size,1,none⟩=some (.slice A m c))
     (first|exact HS1.out|exact HS2.out|exact HSC.out _ hz5|exact HSC.out _ (bl_alloc hz5)|exact HSC.out _ (bl_set hz5 hq5)|exact HSC.out _ (bl_set (bl_set hz5 hq5) hq5)|fail)
     (first|(go_at_call 7;((with_reducible refine(KR1.out _ HZ1.out).mono ?_);rintro e w5 ⟨A5,c5,rfl,hO5,hb5⟩;have hz5:=bl_trans HZ1.out hb5))|(go_at_call 7;((with_reducible refine(KR1.out _ HZ2.out).mono ?_);rintro e w5 ⟨A5,c5,rfl,hO5,hb5⟩;have hz5:=bl_trans HZ2.out hb5;have hn5:=HN2.out.keep hb5;have hq5:wr.heap.size<=wr.heap.size:=nr_;have hl5:wr.heap.size+1<=(wr.alloc (Obj.cells #[.int .i64 0,.slice none 0 0] 26)).drew.heap.size:=(by show _<=(wr.alloc _).heap.size;simp);have n0:=hn5.c0;have n1:=hn5.c1;have n2:=hn5.f0;have n3:=hn5.f1)))
    all_goals
     first
      |(obtain⟨W5,hW5⟩: ∃W5,W5=((w5.setCell ⟨wr.heap.size,0,none⟩ (.int .i64 sz)).setCell ⟨wr.heap.size,1,none⟩ (.slice A5 m c5)):=⟨_,rfl⟩
        rw[<-hW5];have HQ5:Hid (GC W5 wr.heap.size sz A5 m c5):=by rw[hW5];exact hn5.set
        have HZ5:Hid (Below wr.heap.size wr W5):=by rw[hW5];exact bl_set (bl_set hz5 hq5) hq5
        have HO5:Hid (Own W5 wr.heap.size W5.heap.size 3 1 A5 m c5 (fun j=> .int .i64 (y j))):=by
         rw[hW5];exact(hO5.keep (fr2 _ wr.heap.size _ _) (.inr hl5)).mono (Nat.le_trans (Nat.le_succ_of_le hq5) hl5) (by simp[World.setCell])
        have HX5:Hid (wr.heap.size<=wr.heap.size):=hq5;clear hW5 hn5 n0 n1 n2 n3 hO5 hq5 hl5)
      |(obtain⟨W5,hW5⟩: ∃W5,W5=(w5.alloc (Obj.cells #[.int .i64 sz,.slice A5 m c5] 26)):=⟨_,rfl⟩
        rw[<-hW5];have HQ5:Hid (GC W5 w5.heap.size sz A5 m c5):=by rw[hW5];exact GC.new _ _ _ _ _
        have HZ5:Hid (Below wr.heap.size wr W5):=by rw[hW5];exact bl_alloc hz5
        have HO5:Hid (Own W5 wr.heap.size W5.heap.size 3 1 A5 m c5 (fun j=> .int .i64 (y j))):=by rw[hW5];exact(hO5.alloc _).mono (by first|exact nr_|(have:=HZ1.size;omega)) (by simp)
        have HX5:Hid (wr.heap.size<=w5.heap.size):=hz5.size;clear hW5 hO5)
      |fail
    all_goals clear hz5 hb5 HSC HZ1 HZ2 HN2 HS1 HS2  KR1
    all_goals
     have m0:=HQ5.c0;have m1:=HQ5.c1;have HA5:Hid (GA W5 A5 m c5 y):=⟨HO5.rd⟩;have HOw:Hid (Own W5 g (g+1) 4 1 (some ⟨g,0,none⟩) T.length c' (blL T)):=HOq.keepB HZ5.out hg2;have hgw:g<W5.heap.size:=Nat.lt_of_lt_of_le hg2 HZ5.size;clear KA HOq HO5 HX5;clear e0 e1;replace HX:=hh_ (HX.keep HZ5.out);replace HB:=hh_ (HB.keep HZ5.out);replace HC:=hh_ (HC.keep HZ5.out);obtain⟨e0,e1⟩:=gc_ HC;go_wp2_with fail
     refine(KI.out HA5.out).mono ?_;rintro e w7 ⟨rfl,hb7⟩;have HO7:Hid (Own w7 g (g+1) 4 1 (some ⟨g,0,none⟩) T.length c' (blL T)):=HOw.keepB hb7 hgw;have hg7:g<w7.heap.size:=Nat.lt_of_lt_of_le hgw hb7.size;clear m0 m1 HA5 HQ5 HZ5 HOw KI;clear e0 e1;replace HX:=hh_ (HX.keep hb7);replace HB:=hh_ (HB.keep hb7);replace HC:=hh_ (HC.keep hb7);clear hb7;obtain⟨e0,e1⟩:=gc_ HC;have hzB:=HB.below.size;go_wp2_with (first|(at_builtin;(refine wpList_pushBl w7 rfl _ _ rfl g c' T HO7.out hg7 b rfl 1 w7.heap.size rfl rfl (by omega) ?_;intro g3 c3 w3 hO3 hg4 hg5 hf3)))
     have HO3:Hid (Own w3 g3 (g3+1) 4 1 (some ⟨g3,0,none⟩) (T.length+1) c3 (blL (meV sz m x a v u str.toList (T.length+1)))):=by show Own _ _ _ _ _ _ _ _ _;rw[Hs.out];exact hO3
     have HB3:Hid (From w w3):=⟨HB.below.trans (hf3.below (by omega) hzB)⟩;have HC3:Hid (GC w3 w.heap.size sz A m c):=HC.keepF hf3 (.inl hg1);clear hO3 hf3;go_roundw;case rel=>exact⟨T.length+1,c3,g3,by omega,by go_num,rfl,by omega,hg5,HO3,HB3,HC3⟩
     case measure=>simp[intOf]<;>omega
   ·have hk1:k=n+1:=by omega
    have i1:(n:Int)+1<=(k:Int):=by omega
    have Hk:Hid (meV sz m x a v u str.toList k=meL sz m x n a v u str.toList):=by show _=_;rw[Hn.out,hk1]
    have Hkl:Hid ((meL sz m x n a v u str.toList).length=k):=by show _=_;rw[<-Hk.out,meV_len]
    rw[Hk.out] at HO;clear hk1;go_wp2;go_ret;exact⟨some ⟨g,0,none⟩,c',by rw[Hkl.out];rfl,by rw[Hkl.out];exact HO.mono (by omega) hg2,HB.below⟩
end
end Go.Proofs.YtfabbohijhjpcaaGreatDoor
