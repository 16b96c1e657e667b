/- Lemmas. -/
import Derived.Test.YtfabbohijhjpcaaGreatDoorRbDrwM
/-
-/
namespace Go.Proofs.YtfabbohijhjpcaaGreatDoor
open Go.RowKit
set_option maxHeartbeats 6400000
section
variable {w z:World} {q nb cb Q m d:Nat} {A B:Option Addr} {x:Nat->Int}
theorem DG.ds (h:DG w z q A nb cb Q (m:Int) B m d x):DS w z q A nb cb Q (w.heap.size+1) m:=by
 have h1:=h.l;refine h.dd.ds ⟨B,d,x,h.g,h.o.mono nr_ (Nat.le_of_lt h.g.lt),fun e=> ?_⟩ (Nat.lt_succ_self _) h1;rcases h.o.at_block with h2|⟨g,h2,_,hlt⟩
 ·rw[h2] at e;cases e
 ·rw[h2] at e;simp only[Option.some.injEq,Addr.mk.injEq,and_true] at e;omega
end
section
variable {w:World} {q nb cb:Nat} {A:Option Addr}
set_option maxRecDepth 100000 in
theorem l20Graph_s (hc:Cu w q A nb cb):Calls Tryz.prog 160 #[.pointer (some ⟨q,0,none⟩)] w (dgR w q A nb cb):=by
 obtain⟨W,hW⟩: ∃W,W=(w.alloc (Obj.cells #[.int .i64 0,.slice none 0 0] 26)):=⟨_,rfl⟩;have HD:Hid (D0 w W q A nb cb):=by rw[hW];exact D0.new hc
 have HW:=hh_ hW;have KD:=hh_ (l2Any_s HD.cu);have hlW:=HD.lt;clear hW hc;go_enter Tryz.func160,Tryz.ntmps160;go_wp2_with fail
 rw[<-HW.out];clear HW;refine KD.mono ?_;rintro e w1 ⟨sz,B,m,d,x,rfl,hm1,hm7,ho,hd⟩;replace HD:=hh_ (HD.draw hd);clear hd KD;obtain⟨W2,hW2⟩: ∃W2,W2=(w1.alloc (Obj.cells #[.int .i64 sz,.slice B m d] 26)):=⟨_,rfl⟩;have HG:Hid (DG w W2 q A nb cb w1.heap.size sz B m d x):=by rw[hW2];exact DG.new HD.out ho hlW
 have hl1:w.heap.size<w1.heap.size:=HD.lt;have HW2:=hh_ hW2;clear hW2 ho HD;go_wp2_with fail
 rw[<-HW2.out];clear HW2;refine(IsGraph_sany sz B m d x W2 W2.heap.size HG.ga.rd nr_ (by omega)).mono ?_;rintro e w3 ⟨rfl,hb⟩;replace HG:=hh_ (HG.keep hb);clear hb;have hlq:q<w.heap.size:=HG.dd.l1;cases hok:okB sz m x
 ·clear hok;have d0:=HG.dd.d.c0;have d1:=HG.dd.d.c1;have d2:=HG.dd.d.f0;have d3:=HG.dd.d.f1;have e0:=HG.g.c0;have e1:=HG.g.c1;have HF:=hh_ (HG.fin hm7);have j1:(w.heap.size=w1.heap.size)=False:=by simp;omega
  have j2:(w1.heap.size=w.heap.size)=False:=by simp;omega
  go_wp2;exact bodyPost_ret (v:=.agg #[.int .i64 sz,.slice B m d]) (by simp[results,Tryz.results160,go_sem, *]) rfl HF.out
 ·obtain⟨_,es,_,_⟩:=okB_ok' hok;subst es;clear hok;have KB:=hh_ (l1Once_s (k:=3) HG.dd.cu (by omega) (by omega));go_wp2_with fail
  refine KB.mono ?_;rintro e w4 ⟨y,rfl,hd⟩;replace HG:=hh_ (HG.draw hd);clear hd KB;cases y
  rotate_left
  ·have d0:=HG.dd.d.c0;have d1:=HG.dd.d.c1;have d2:=HG.dd.d.f0;have d3:=HG.dd.d.f1;have e0:=HG.g.c0;have e1:=HG.g.c1;have HF:=hh_ (HG.fin hm7);have j1:(w.heap.size=w1.heap.size)=False:=by simp;omega
   have j2:(w1.heap.size=w.heap.size)=False:=by simp;omega
   go_wp2;exact bodyPost_ret (v:=.agg #[.int .i64 (m:Int),.slice B m d]) (by simp[results,Tryz.results160,go_sem, *]) rfl HF.out
  ·have HS:=hh_ HG.ds;clear HG;go_wp2;go_loopw [4] (fun iv wr=> ∃v:Nat,v<=m/\iv=.int .i64 v/\Hid (DS w wr q A nb cb w1.heap.size (w.heap.size+1) m)) (fun iv _=>m-(intOf iv).toNat);case atStart=>exact⟨0,Nat.zero_le _,rfl,HS⟩
   case round=>
    clear HS;obtain⟨v,hv,rfl,HSr⟩:=hrel;obtain⟨_,_,_,hg,_,_⟩:=HSr.gu.ex;have e0:=hg.c0;clear hg;by_cases hvn:v<m
    ·have i1:(v:Int)<m:=by omega
     have hr:(v:Int).tmod 2=((v%2:Nat):Int):=by rw[Int.natCast_emod];exact Int.tmod_eq_emod_of_nonneg (by omega)
     go_wp2;clear e0;go_loopw [5] (fun iv wz=> ∃u:Nat,u<=v+1/\iv=.int .i64 u/\Hid (DS w wz q A nb cb w1.heap.size (w.heap.size+1) m)) (fun iv _=>v+1-(intOf iv).toNat);case atStart=>exact⟨v%2,by omega,by (first|rfl|rw[hr]|(simp[hr])),HSr⟩
     case round=>
      clear HSr hr;obtain⟨u,hu,rfl,HSz⟩:=hrel;by_cases huv:u<v
      ·have i2:(u:Int)<v:=by omega
       obtain⟨wz,rfl⟩: ∃z,z=wr:=⟨_,rfl⟩;obtain⟨A1,c1,x1,hg1,ho1,hne⟩:=HSz.gu.ex;have HG1:=hh_ hg1;have hz1:w1.heap.size<wz.heap.size:=hg1.lt;have e0:=hg1.c0;have e1:=hg1.c1;have KA:Hid (Calls Tryz.prog 92 #[.agg #[.int .i64 m,.slice A1 m c1],.int .i64 v,.int .i64 u] wz _):=RemoveEdge_s (m:Int) A1 m c1 x1 v u wz wz.heap.size ho1.rd nr_ (by omega);clear hg1 ho1 hne;go_wp2_with ((go_at_call 92;(with_reducible refine KA.out.mono ?_);rintro e w5 ⟨A5,c5,rfl,hO5,hb5⟩;have hn5:=HG1.out.keep hb5;have n0:=hn5.c0;have n1:=hn5.c1;have n2:=hn5.f0;have n3:=hn5.f1))
       have HS6:Hid (DS w ((w5.setCell ⟨w1.heap.size,0,none⟩ (.int .i64 m)).setCell ⟨w1.heap.size,1,none⟩ (.slice A5 m c5)) q A nb cb w1.heap.size (w.heap.size+1) m):=HSz.set hb5 (hO5.mono (by omega) nr_);clear hO5 hb5 hn5 n0 n1 n2 n3;go_roundw;case rel=>exact⟨u+2,by omega,by go_num,HS6⟩
       case measure=>simp[intOf]<;>omega
      ·have i2:(v:Int)<=u:=by omega
       go_wp2;go_roundw;case rel=>exact⟨v+1,by omega,by go_num,HSz⟩
       case measure=>simp[intOf]<;>omega
    ·obtain rfl:v=m:=by omega
     have i1:(v:Int)<=v:=Int.le_refl _;clear e0;have d0:=HSr.d.c0;have d1:=HSr.d.c1;have d2:=HSr.d.f0;have d3:=HSr.d.f1;obtain⟨A1,c1,x1,hg1,ho1,hne⟩:=HSr.gu.ex;have e0:=hg1.c0;have e1:=hg1.c1;have HF:=hh_ (dgQ.fin hm1 hm7 HSr.out ho1).r;clear hg1 ho1 hne;go_wp2;exact bodyPost_ret (v:=.agg #[.int .i64 v,.slice A1 v c1]) (by simp[results,Tryz.results160,go_sem, *]) rfl HF.out
set_option maxRecDepth 100000 in
theorem l18Graph_s (hc:Cu w q A nb cb):Calls Tryz.prog 232 #[.pointer (some ⟨q,0,none⟩)] w (dgR w q A nb cb):=by
 obtain⟨W,hW⟩: ∃W,W=(w.alloc (Obj.cells #[.int .i64 0,.slice none 0 0] 26)):=⟨_,rfl⟩;have HD:Hid (D0 w W q A nb cb):=by rw[hW];exact D0.new hc
 have HW:=hh_ hW;have KD:=hh_ (l2Any_s HD.cu);have hlW:=HD.lt;clear hW hc;go_enter Tryz.func232,Tryz.ntmps232;go_wp2_with fail
 rw[<-HW.out];clear HW;refine KD.mono ?_;rintro e w1 ⟨sz,B,m,d,x,rfl,hm1,hm7,ho,hd⟩;replace HD:=hh_ (HD.draw hd);clear hd KD;obtain⟨W2,hW2⟩: ∃W2,W2=(w1.alloc (Obj.cells #[.int .i64 sz,.slice B m d] 26)):=⟨_,rfl⟩;have HG:Hid (DG w W2 q A nb cb w1.heap.size sz B m d x):=by rw[hW2];exact DG.new HD.out ho hlW
 have hl1:w.heap.size<w1.heap.size:=HD.lt;have HW2:=hh_ hW2;clear hW2 ho HD;go_wp2_with fail
 rw[<-HW2.out];clear HW2;refine(IsGraph_sany sz B m d x W2 W2.heap.size HG.ga.rd nr_ (by omega)).mono ?_;rintro e w3 ⟨rfl,hb⟩;replace HG:=hh_ (HG.keep hb);clear hb;have hlq:q<w.heap.size:=HG.dd.l1;cases hok:okB sz m x
 ·clear hok;have d0:=HG.dd.d.c0;have d1:=HG.dd.d.c1;have d2:=HG.dd.d.f0;have d3:=HG.dd.d.f1;have e0:=HG.g.c0;have e1:=HG.g.c1;have HF:=hh_ (HG.fin hm7);have j1:(w.heap.size=w1.heap.size)=False:=by simp;omega
  have j2:(w1.heap.size=w.heap.size)=False:=by simp;omega
  go_wp2;exact bodyPost_ret (v:=.agg #[.int .i64 sz,.slice B m d]) (by simp[results,Tryz.results232,go_sem, *]) rfl HF.out
 ·obtain⟨_,es,_,_⟩:=okB_ok' hok;subst es;clear hok;have KB:=hh_ (l1Once_s (k:=3) HG.dd.cu (by omega) (by omega));go_wp2_with fail
  refine KB.mono ?_;rintro e w4 ⟨y,rfl,hd⟩;replace HG:=hh_ (HG.draw hd);clear hd KB;cases y
  rotate_left
  ·have d0:=HG.dd.d.c0;have d1:=HG.dd.d.c1;have d2:=HG.dd.d.f0;have d3:=HG.dd.d.f1;have e0:=HG.g.c0;have e1:=HG.g.c1;have HF:=hh_ (HG.fin hm7);have j1:(w.heap.size=w1.heap.size)=False:=by simp;omega
   have j2:(w1.heap.size=w.heap.size)=False:=by simp;omega
   go_wp2;exact bodyPost_ret (v:=.agg #[.int .i64 (m:Int),.slice B m d]) (by simp[results,Tryz.results232,go_sem, *]) rfl HF.out
  ·have HS:=hh_ HG.ds;clear HG;have KB:=hh_ (l1Below_s (k:=m+1) HS.cu (by omega) (by omega));obtain⟨_,_,_,hg,_,_⟩:=HS.gu.ex;have e0:=hg.c0;clear hg;obtain⟨M,hM⟩: ∃M,M=m+1:=⟨_,rfl⟩;have hM2:(m:Int)+1=(M:Int):=by omega
   rw[<-hM] at KB;clear hM;go_wp2_with fail
   refine KB.mono ?_;rintro e w6 ⟨k,rfl,hk,hd⟩;replace HS:=hh_ (HS.draw hd);clear hd KB e0 hM2 hk;go_wp2;go_loopw [5] (fun iv wr=> ∃v:Nat,v<=m/\iv=.int .i64 v/\Hid (DS w wr q A nb cb w1.heap.size (w.heap.size+1) m)) (fun iv _=>m-(intOf iv).toNat);case atStart=>exact⟨0,Nat.zero_le _,rfl,HS⟩
   case round=>
    clear HS;obtain⟨v,hv,rfl,HSr⟩:=hrel;obtain⟨_,_,_,hg,_,_⟩:=HSr.gu.ex;have e0:=hg.c0;clear hg;by_cases hvn:v<m
    ·have i1:(v:Int)<m:=by omega
     go_wp2;clear e0;go_loopw [6] (fun iv wz=> ∃u:Nat,u<=v/\iv=.int .i64 u/\Hid (DS w wz q A nb cb w1.heap.size (w.heap.size+1) m)) (fun iv _=>v-(intOf iv).toNat);case atStart=>exact⟨0,by omega,rfl,HSr⟩
     case round=>
      clear HSr;obtain⟨u,hu,rfl,HSz⟩:=hrel;by_cases huv:u<v
      ·have i2:(u:Int)<v:=by omega
       obtain⟨wz,rfl⟩: ∃z,z=wr:=⟨_,rfl⟩;by_cases hvk:v<k
       ·have i3:(v:Int)<k:=by omega
        have i4:(u:Int)<k:=by omega
        obtain⟨A1,c1,x1,hg1,ho1,hne⟩:=HSz.gu.ex;have HG1:=hh_ hg1;have hz1:w1.heap.size<wz.heap.size:=hg1.lt;have e0:=hg1.c0;have e1:=hg1.c1;have KA:Hid (Calls Tryz.prog 91 #[.agg #[.int .i64 m,.slice A1 m c1],.int .i64 v,.int .i64 u] wz _):=AddEdge_s (m:Int) A1 m c1 x1 v u wz wz.heap.size ho1.rd nr_ (by omega);clear hg1 ho1 hne;go_wp2_with ((go_at_call 91;(with_reducible refine KA.out.mono ?_);rintro e w5 ⟨A5,c5,rfl,hO5,hb5⟩;have hn5:=HG1.out.keep hb5;have n0:=hn5.c0;have n1:=hn5.c1;have n2:=hn5.f0;have n3:=hn5.f1))
        have HS6:Hid (DS w ((w5.setCell ⟨w1.heap.size,0,none⟩ (.int .i64 m)).setCell ⟨w1.heap.size,1,none⟩ (.slice A5 m c5)) q A nb cb w1.heap.size (w.heap.size+1) m):=HSz.set hb5 (hO5.mono (by omega) nr_);clear hO5 hb5 hn5 n0 n1 n2 n3;go_roundw;case rel=>exact⟨u+1,by omega,by go_num,HS6⟩
        case measure=>simp[intOf]<;>omega
       ·have i3:(k:Int)<=v:=by omega
        by_cases huk:k<=u
        ·have i4:(k:Int)<=u:=by omega
         obtain⟨A1,c1,x1,hg1,ho1,hne⟩:=HSz.gu.ex;have HG1:=hh_ hg1;have hz1:w1.heap.size<wz.heap.size:=hg1.lt;have e0:=hg1.c0;have e1:=hg1.c1;have KA:Hid (Calls Tryz.prog 92 #[.agg #[.int .i64 m,.slice A1 m c1],.int .i64 v,.int .i64 u] wz _):=RemoveEdge_s (m:Int) A1 m c1 x1 v u wz wz.heap.size ho1.rd nr_ (by omega);clear hg1 ho1 hne;go_wp2_with ((go_at_call 92;(with_reducible refine KA.out.mono ?_);rintro e w5 ⟨A5,c5,rfl,hO5,hb5⟩;have hn5:=HG1.out.keep hb5;have n0:=hn5.c0;have n1:=hn5.c1;have n2:=hn5.f0;have n3:=hn5.f1))
         have HS6:Hid (DS w ((w5.setCell ⟨w1.heap.size,0,none⟩ (.int .i64 m)).setCell ⟨w1.heap.size,1,none⟩ (.slice A5 m c5)) q A nb cb w1.heap.size (w.heap.size+1) m):=HSz.set hb5 (hO5.mono (by omega) nr_);clear hO5 hb5 hn5 n0 n1 n2 n3;go_roundw;case rel=>exact⟨u+1,by omega,by go_num,HS6⟩
         case measure=>simp[intOf]<;>omega
        ·have i4:(u:Int)<k:=by omega
         go_wp2;go_roundw;case rel=>exact⟨u+1,by omega,by go_num,HSz⟩
         case measure=>simp[intOf]<;>omega
      ·have i2:(v:Int)<=u:=by omega
       go_wp2;go_roundw;case rel=>exact⟨v+1,by omega,by go_num,HSz⟩
       case measure=>simp[intOf]<;>omega
    ·obtain rfl:v=m:=by omega
     have i1:(v:Int)<=v:=Int.le_refl _;clear e0;have d0:=HSr.d.c0;have d1:=HSr.d.c1;have d2:=HSr.d.f0;have d3:=HSr.d.f1;obtain⟨A1,c1,x1,hg1,ho1,hne⟩:=HSr.gu.ex;have e0:=hg1.c0;have e1:=hg1.c1;have HF:=hh_ (dgQ.fin hm1 hm7 HSr.out ho1).r;clear hg1 ho1 hne;go_wp2;exact bodyPost_ret (v:=.agg #[.int .i64 v,.slice A1 v c1]) (by simp[results,Tryz.results232,go_sem, *]) rfl HF.out
end
set_option maxHeartbeats 6400000
section
variable {w wr w2:World} {q nb cb n' c':Nat} {A A':Option Addr} {f:Nat->Int}
structure DP (w wr:World) (q:Nat) (A:Option Addr) (nb cb:Nat) (A':Option Addr) (n' c':Nat) (f:Nat->Int):Prop where
 cu:Cu wr q A nb cb
 fr:Fr q (q+1) w wr
 l1:q<w.heap.size
 o:Own wr w.heap.size wr.heap.size 3 1 A' n' c' (fun j=> .int .i64 (f j))
theorem DP.draw (h:DP w wr q A nb cb A' n' c' f) (hd:Dr wr q A nb cb w2):DP w w2 q A nb cb A' n' c' f:=by
 have h1:=h.l1;exact⟨hd.cu,h.fr.trans hd.fr,h1,(h.o.keep hd.fr (.inr (by omega))).mono nr_ hd.fr.size⟩
theorem DP.grow {A2:Option Addr} {n2 c2:Nat} {f2:Nat->Int} (h:DP w wr q A nb cb A' n' c' f) (hb:Below wr.heap.size wr w2) (ho:Own w2 wr.heap.size w2.heap.size 3 1 A2 n2 c2 (fun j=> .int .i64 (f2 j))):DP w w2 q A nb cb A2 n2 c2 f2:=
 ⟨h.cu.keep hb,h.fr.trans (Fr.of_below hb),h.l1,ho.mono h.fr.size nr_⟩
theorem DP.keep (h:DP w wr q A nb cb A' n' c' f) (hb:Below wr.heap.size wr w2):DP w w2 q A nb cb A' n' c' f:=
 ⟨h.cu.keep hb,h.fr.trans (Fr.of_below hb),h.l1,(h.o.keepB hb nr_).mono nr_ hb.size⟩
theorem DP.fin (h:DP w wr q A nb cb A' n' c' f) (hn:n'<=7):dlQ w q A nb cb (.returned (.slice A' n' c')) wr:=⟨A',n',c',f,rfl,hn,h.o,h.cu,h.fr⟩
theorem DP.set {g:Nat} (h:DP w wr q A nb cb (some ⟨g,0,none⟩) n' c' f) (hn:0<n') (z:Int):DP w (wr.setCell ⟨g,0,none⟩ (.int .i64 z)) q A nb cb (some ⟨g,0,none⟩) n' c' (fun j=>if j=0 then z else f j):=by
 have h1:=h.l1;obtain⟨g5,e5,hg,_⟩:=h.o.at_ (by omega);cases e5
 have hf:Fr g (g+1) wr (wr.setCell ⟨g,0,none⟩ (.int .i64 z)):=(Fr.refl _ _ wr).setCell (p:=⟨g,0,none⟩) nr_ (Nat.lt_succ_self _) _;refine⟨h.cu.keepF hf (by omega),h.fr.past hf hg,h1,?_⟩;have h2:=(h.o.set_ 0 (.int .i64 z)).mono nr_ hf.size;exact h2.congr fun j _=>by by_cases e:j=0<;>simp[e]
end
section
variable {w:World} {q nb cb:Nat} {A:Option Addr}
set_option maxRecDepth 100000 in
theorem l14Permutation_s (hc:Cu w q A nb cb):Calls Tryz.prog 233 #[.pointer (some ⟨q,0,none⟩)] w (dlQ w q A nb cb):=by
 obtain⟨W0,hW0⟩: ∃W,W=w.alloc (Obj.cells #[] 3):=⟨_,rfl⟩;have HP:Hid (DP w W0 q A nb cb (some ⟨w.heap.size,0,none⟩) 0 0 (fun j=>((([]:List Nat).getD j 0:Nat):Int))):=by
  have hb:Below w.heap.size w W0:=by rw[hW0];exact br_.alloc nr_ _
  refine⟨hc.keep hb,Fr.of_below hb,hc.lt,?_⟩;rw[hW0];exact(ON.nil w).own
 have HW0:=hh_ hW0;have KB:=hh_ (l1Below_s (k:=6) HP.cu (by omega) (by omega));clear hW0 hc;go_enter Tryz.func233,Tryz.ntmps233;go_wp2_with fail
 rw[<-HW0.out];clear HW0;refine KB.mono ?_;rintro e w1 ⟨v,rfl,hv,hd⟩;replace HP:=hh_ (HP.draw hd);clear hd KB;obtain⟨n,hn⟩: ∃n,n=v+1:=⟨_,rfl⟩;have hv2:(1:Int)+(v:Int)=n:=by omega
 have hn1:1<=n:=by omega
 have hn6:n<=6:=by omega
 clear hn hv;go_wp2;clear hv2;go_loopw [3,4] (fun l i wr=> ∃(k j g c1:Nat) (T:List Nat),T.length=k/\k+j=n/\i=.int .i64 j/\l=.slice (some ⟨g,0,none⟩) k c1/\Hid (DP w wr q A nb cb (some ⟨g,0,none⟩) k c1 (fun i=>((T.getD i 0:Nat):Int)))) (fun _ i _=>(intOf i).toNat);case atStart=>exact⟨0,n,_,0,[],rfl,by omega,by (first|rfl|(congr 1;omega)),rfl,HP⟩
 case round=>
  clear HP;obtain⟨k,j0,g,c1,T,hTl,hkn,rfl,rfl,HP⟩:=hrel;by_cases hj0:0<j0
  ·obtain⟨j,rfl⟩: ∃j,j0=j+1:=⟨j0-1,by omega⟩;have i1:(0:Int)<((j+1:Nat):Int):=by omega
   have HTl:=hh_ hTl;have hk6:k<=6:=by omega
   clear hTl hj0;have KB:=hh_ (l1Below_s (k:=k+1) HP.cu (by omega) (by omega));obtain⟨M,hM⟩: ∃M,M=k+1:=⟨_,rfl⟩;have hM2:(k:Int)+1=(M:Int):=by omega
   rw[<-hM] at KB;have HM:=hh_ hM;clear hM;go_wp2_with fail
   refine KB.mono ?_;rintro e w3 ⟨p,rfl,hp,hd⟩;replace HP:=hh_ (HP.draw hd);have hpk:p<=k:=by have:=HM.out;omega
   clear hd KB hM2 HM hp;obtain⟨W,hWW⟩: ∃W,W=w3:=⟨_,rfl⟩;rw[<-hWW] at HP ⊢;clear hWW;have HO:=hh_ HP.o;have hgw:g<W.heap.size:=by
    rcases HP.o.at_block with h2|⟨g2,h2,_,hlt⟩
    ·cases h2
    ·simp only[Option.some.injEq,Addr.mk.injEq,and_true] at h2;omega
   have hkc:k<=c1:=HP.o.le;obtain⟨T1,T2,hT12,hT1⟩: ∃T1 T2:List Nat,T=T1++T2/\T1.length=p:=⟨T.take p,T.drop p,(List.take_append_drop p T).symm,by rw[List.length_take,HTl.out];omega⟩;have HT12:=hh_ hT12;have hT2:T2.length=k-T1.length:=by
    have h5:=HTl.out;rw[hT12,List.length_append] at h5;omega
   have HT2l:=hh_ hT2;clear hT12;subst hT1;have hjk:T1.length<=k:=by omega
   have hcell:Hid (∀i,i<k->W.cell? ⟨g,i,none⟩=some (.int .i64 ((T.getD i 0:Nat):Int))):=fun i hi=>by
    obtain⟨g5,e5,_,_,_,h5,_⟩:=HO.at_ (by omega);cases e5
    exact h5 i (by omega)
   have HRa:Hid (Rd W W.heap.size (some ⟨g,0,none⟩) T1.length c1 (fun i=>((T1.getD i 0:Nat):Int))):=⟨by omega,fun _=>⟨g,0,rfl,hgw,fun i hi=>by
    rw[Nat.zero_add,hcell.out i (by omega),HT12.out];simp[List.getD,List.getElem?_append_left hi]⟩⟩
   have HRd:Hid (Rd W W.heap.size (if c1=T1.length then some ⟨g,0,none⟩ else some ⟨g,T1.length,none⟩) (k-T1.length) (c1-T1.length) (fun i=>((T2.getD i 0:Nat):Int))):=⟨by omega,fun h0=>⟨g,T1.length,by rw[if_neg (by omega)],hgw,fun i hi=>by
    rw[hcell.out (T1.length+i) (by omega),HT12.out];simp[List.getD,List.getElem?_append_right (Nat.le_add_right T1.length i)]⟩⟩
   clear hcell HO;have HZ0:Hid (Below W.heap.size W W.drew):=br_.drew;have HB1:Hid (Below W.heap.size W ((W.alloc (Obj.cells #[] 3)).drew)):=(br_.alloc nr_ _).drew;have HB2:Hid (Below W.heap.size W (((W.alloc (Obj.cells #[] 3)).alloc (Obj.cells #[.int .i64 (k:Int)] 3)).drew)):=((br_.alloc nr_ _).alloc (by simp) _).drew;have HB3:Hid (Below W.heap.size W (((W.alloc (Obj.cells #[.int .i64 (k:Int)] 3)).alloc (Obj.cells #[] 3)).drew)):=((br_.alloc nr_ _).alloc (by simp) _).drew;have HB4:Hid (Below W.heap.size W ((W.alloc (Obj.cells #[.int .i64 (k:Int)] 3)).drew)):=(br_.alloc nr_ _).drew;have HO1:Hid (Own ((W.alloc (Obj.cells #[] 3)).drew) W.heap.size (W.heap.size+1) 3 1 (some ⟨W.heap.size,0,none⟩) 0 0 (ni [])):=.inr ⟨W.heap.size,#[],rfl,nr_,Nat.lt_succ_self _,heap_alloc_new W _,nr_,by unfold maxLen;omega,rfl,fun j hj=>absurd hj (by omega)⟩;have HO2:Hid (Own (((W.alloc (Obj.cells #[] 3)).alloc (Obj.cells #[.int .i64 (k:Int)] 3)).drew) W.heap.size (W.heap.size+1) 3 1 (some ⟨W.heap.size,0,none⟩) 0 0 (ni [])):=Own.alloc HO1.out _
   have HO3:Hid (Own (((W.alloc (Obj.cells #[.int .i64 (k:Int)] 3)).alloc (Obj.cells #[] 3)).drew) W.heap.size (W.heap.size+1+1) 3 1 (some ⟨W.heap.size+1,0,none⟩) 0 0 (ni [])):=by
    have hn:=heap_alloc_new (W.alloc (Obj.cells #[.int .i64 (k:Int)] 3)) (Obj.cells #[] 3);have he:(W.alloc (Obj.cells #[.int .i64 (k:Int)] 3)).heap.size=W.heap.size+1:=by simp
    rw[he] at hn;exact .inr ⟨W.heap.size+1,#[],rfl,by omega,Nat.lt_succ_self _,hn,nr_,by unfold maxLen;omega,rfl,fun j hj=>absurd hj (by omega)⟩
   have HR1:Hid (Rd ((W.alloc (Obj.cells #[] 3)).drew) W.heap.size (some ⟨g,0,none⟩) T1.length c1 (fun i=>((T1.getD i 0:Nat):Int))):=HRa.keep HB1 nr_;have HR2:Hid (Rd (((W.alloc (Obj.cells #[] 3)).alloc (Obj.cells #[.int .i64 (k:Int)] 3)).drew) W.heap.size (some ⟨g,0,none⟩) T1.length c1 (fun i=>((T1.getD i 0:Nat):Int))):=HRa.keep HB2 nr_;have HR3:Hid (Rd (((W.alloc (Obj.cells #[.int .i64 (k:Int)] 3)).alloc (Obj.cells #[] 3)).drew) W.heap.size (some ⟨g,0,none⟩) T1.length c1 (fun i=>((T1.getD i 0:Nat):Int))):=HRa.keep HB3 nr_;have B2:Hid ((((W.alloc (Obj.cells #[] 3)).alloc (Obj.cells #[.int .i64 (k:Int)] 3)).drew).heap[W.heap.size+1]? =some (.cells #[.int .i64 (k:Int)] 3 (0,0))/\W.heap.size+1<(((W.alloc (Obj.cells #[] 3)).alloc (Obj.cells #[.int .i64 (k:Int)] 3)).drew).heap.size):=by
    have hn:=heap_alloc_new (W.alloc (Obj.cells #[] 3)) (Obj.cells #[.int .i64 (k:Int)] 3);have he:(W.alloc (Obj.cells #[] 3)).heap.size=W.heap.size+1:=by simp
    rw[he] at hn;exact⟨hn,by show _<((W.alloc _).alloc _).heap.size;simp⟩
   have B3:Hid ((((W.alloc (Obj.cells #[.int .i64 (k:Int)] 3)).alloc (Obj.cells #[] 3)).drew).heap[W.heap.size]? =some (.cells #[.int .i64 (k:Int)] 3 (0,0))/\W.heap.size<(((W.alloc (Obj.cells #[.int .i64 (k:Int)] 3)).alloc (Obj.cells #[] 3)).drew).heap.size):=
    ⟨(Below.heap_alloc (W.alloc (Obj.cells #[.int .i64 (k:Int)] 3)) _ _ (by simp)).trans (heap_alloc_new W _),by show _<((W.alloc _).alloc _).heap.size;simp;omega⟩
   have HC1:Hid (∀(z:World) (A1:Option Addr) (k1:Nat),Own z W.heap.size z.heap.size 3 1 A1 T1.length k1 (fun i=> .int .i64 ((T1.getD i 0:Nat):Int))->Own z W.heap.size z.heap.size 3 1 A1 T1.length k1 (ni (T1++ [k]))):=by
    intro z A1 k1 h;exact h.congr (fun i hi=>by rw[ni_left (by omega)];rfl)
   have hT1s:T1.length<=7:=by omega
   have hk7:k<=7:=by omega
   have n1:(0:Int)<=T1.length:=by omega
   have n2:(T1.length:Int)<=(c1:Int):=by omega
   have n3:(T1.length:Int)<=(k:Int):=by omega
   have n4:(k:Int)<=c1:=by omega
   clear HRa;go_wp2;go_region_held3 (fun z=>Below W.heap.size W z)
    (first|exact HZ0.out|exact HB1|exact HB2|exact HB3|exact HB4|exact hzC|exact hzB|exact(bl_alloc hzA)|exact hzA|fail)
    (first
      |((refine step_appendI _ (by rfl) _ _ (by rfl) (by rfl) hp.own (by rfl) (HRd.keep hzB nr_) hzB.size (by omega) (by omega) ?_;intro A9 c9 wC hOC hbC;have hzC:=hzB.trans hbC))
      |((refine step_appendG0 _ (by rfl) _ _ (by rfl) (by rfl) HO1.out (by rfl) HR1.out HB1.size (by omega) ?_;intro A1 k1 wA hOA hbA hgA;have hzA:=HB1.trans hbA;have hOA':=HC1 _ _ _ hOA))
      |((refine step_appendG0 _ (by rfl) _ _ (by rfl) (by rfl) HO2.out (by rfl) HR2.out HB2.size (by omega) ?_;intro A1 k1 wA hOA hbA hgA;have hzA:=HB2.trans hbA;have hOA':=HC1 _ _ _ hOA;have hB5:=(hgA.block (W.heap.size+1) B2.out.2 (by simp[Value.ownBlock])).trans B2.out.1))
      |((refine step_appendG0 _ (by rfl) _ _ (by rfl) (by rfl) HO3.out (by rfl) HR3.out HB3.size (by omega) ?_;intro A1 k1 wA hOA hbA hgA;have hzA:=HB3.trans hbA;have hOA':=HC1 _ _ _ hOA;have hB5:=(hgA.block W.heap.size B3.out.2 (by simp[Value.ownBlock])).trans B3.out.1))
      |((refine step_push _ (by rfl) _ _ _ (by rfl) 3 _ 1 8 Tryz.underlying24 info_int rfl (by omega) W.heap.size wA.heap.size A1 T1.length k1 (ni (T1++ [k])) (by rfl) (hOA'.alloc _) (by have:=hzA.size;simp;omega) wA.heap.size #[.int .i64 (k:Int)] 3 (0,0) 1 (heap_alloc_new wA _) (by rfl) rfl ni_news (by simp[Value.oneCell']) (by omega) (by omega) ?_;intro g6 cap wB hp;have hzB:=(bl_alloc hzA).trans hp.below))
      |((refine step_push _ (by rfl) _ _ _ (by rfl) 3 _ 1 8 Tryz.underlying24 info_int rfl (by omega) W.heap.size wA.heap.size A1 T1.length k1 (ni (T1++ [k])) (by rfl) hOA' hzA.size (W.heap.size+1) #[.int .i64 (k:Int)] 3 (0,0) 1 hB5 (by rfl) rfl ni_news (by simp[Value.oneCell']) (by omega) (by omega) ?_;intro g6 cap wB hp;have hzB:=hzA.trans hp.below))
      |((refine step_push _ (by rfl) _ _ _ (by rfl) 3 _ 1 8 Tryz.underlying24 info_int rfl (by omega) W.heap.size wA.heap.size A1 T1.length k1 (ni (T1++ [k])) (by rfl) hOA' hzA.size W.heap.size #[.int .i64 (k:Int)] 3 (0,0) 1 hB5 (by rfl) rfl ni_news (by simp[Value.oneCell']) (by omega) (by omega) ?_;intro g6 cap wB hp;have hzB:=hzA.trans hp.below))
      |fail)
   all_goals
    have he:T1.length+1+(k-T1.length)=k+1:=by omega
    rw[he] at hOC;try rw[he]
    have hl2:(T1++ [k]++T2).length=k+1:=by rw[List.length_append,List.length_append,HT2l.out];simp;omega
    have hOD:Own wC W.heap.size wC.heap.size 3 1 A9 (k+1) c9 (fun i=> .int .i64 (((T1++ [k]++T2).getD i 0:Nat):Int)):=by
     obtain⟨P,hP⟩: ∃P,P=T1++ [k]:=⟨_,rfl⟩;have hPl:P.length=T1.length+1:=by rw[hP];simp
     rw[<-hP] at hOC ⊢;exact hOC.congr (fun i hi=>by
      unfold thenI ni;by_cases h5:i<T1.length+1
      ·rw[if_pos (by omega)];simp[List.getD,List.getElem?_append_left (show i<P.length by omega)]
      ·rw[if_neg (by omega)];simp[List.getD,List.getElem?_append_right (show P.length<=i by omega),hPl])
    obtain⟨g7,rfl,_,_,_,_⟩:=hOD.at_ (by omega);have HP2:=hh_ (HP.grow hzC hOD);obtain⟨T9,hT9⟩: ∃T9,T9=T1++ [k]++T2:=⟨_,rfl⟩;rw[<-hT9] at HP2 hl2;clear hOC hOD hzC hbC hzB hp hzA hOA hOA' hbA hgA HZ0 HB1 HB2 HB3 HB4 HO1 HO2 HO3 HR1 HR2 HR3 B2 B3 HC1 HRd HP hT9;go_wp2;go_roundw;case rel=>exact⟨k+1,j,g7,c9,T9,hl2,by omega,by go_num,rfl,HP2⟩
    case measure=>simp[intOf]<;>omega
  ·obtain rfl:j0=0:=by omega
   have KB:=hh_ (l1Once_s (k:=14) HP.cu (by omega) (by omega));have hk1:1<=k:=by omega
   have hk6:k<=6:=by omega
   clear hTl hkn;go_wp2_with fail
   refine KB.mono ?_;rintro e w3 ⟨y,rfl,hd⟩;replace HP:=hh_ (HP.draw hd);clear hd KB;cases y
   ·have HF:=hh_ (HP.fin (by omega));go_wp2;go_ret;exact HF.out
   ·obtain⟨W4,hW4⟩: ∃W4,W4=(w3.alloc (Obj.cells #[.int .i64 (-1),.int .i64 0,.int .i64 7] 3)):=⟨_,rfl⟩;have hb4:Below w3.heap.size w3 W4:=by rw[hW4];exact br_.alloc nr_ _
    have hl4:w3.heap.size<W4.heap.size:=by rw[hW4];simp
    have hl:LC W4 w3.heap.size 3:=by
     refine⟨fun j hj=> ?_⟩;rw[hW4];have hj5:j=0\/j=1\/j=2:=by omega
     rcases hj5 with rfl|rfl|rfl
     ·exact⟨-1,by simp[go_sem]⟩
     ·exact⟨0,by simp[go_sem]⟩
     ·exact⟨7,by simp[go_sem]⟩
    have hq3:q<w3.heap.size:=HP.cu.lt;replace HP:=hh_ (HP.keep hb4);have KP:=hh_ (l1PickInt_s (k:=3) HP.cu hl hq3 hl4 (by omega) (by omega));have HW4:=hh_ hW4;clear hW4 hb4 hl;go_wp2_with fail
    rw[<-HW4.out];clear HW4;refine KP.mono ?_;rintro e w5 ⟨z,rfl,hd⟩;replace HP:=hh_ (HP.draw hd);clear hd KP;have i0:(0:Int)<k:=by omega
    obtain⟨g5,e5,_,_,_,hc5,hf5⟩:=HP.o.at_ (by omega);cases e5
    have c0:=hc5 0 (by omega);have f0:=hf5;have HF:=hh_ ((HP.set (by omega) z).fin (by omega));clear hc5;go_wp2;go_ret;exact HF.out
end
end Go.Proofs.YtfabbohijhjpcaaGreatDoor
