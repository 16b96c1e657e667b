/- Lemmas. -/
import Derived.Test.YtfabbohijhjpcaaGreatDoorRbDrwA
namespace Go.Proofs.YtfabbohijhjpcaaGreatDoor
open Go.RowKit
set_option maxHeartbeats 6400000
structure GU (w:World) (q lo n:Nat):Prop where
 ex: ∃(A:Option Addr) (c:Nat) (x:Nat->Int),GC w q n A n c/\Own w lo w.heap.size 3 1 A n c (fun j=> .int .i64 (x j))/\A≠some ⟨q,0,none⟩
section
variable {w w':World} {q lo n:Nat}
theorem GU.keep (h:GU w q lo n) (hb:Below w.heap.size w w'):GU w' q lo n:=by
 obtain⟨A,c,x,h1,h2,h3⟩:=h.ex;exact⟨A,c,x,h1.keep hb,(h2.keepB hb nr_).mono nr_ hb.size,h3⟩
theorem GU.keepF {a b:Nat} (h:GU w q lo n) (hf:Fr a b w w') (hq:b<=q) (hl:b<=lo):GU w' q lo n:=by
 obtain⟨A,c,x,h1,h2,h3⟩:=h.ex;exact⟨A,c,x,h1.keepF hf (.inr hq),(h2.keep hf (.inr hl)).mono nr_ hf.size,h3⟩
theorem GU.set {sz:Int} {A B:Option Addr} {m c d:Nat} {x:Nat->Int} (h:GC w q sz A m c) (ho:Own w (q+1) w.heap.size 3 1 B n d (fun j=> .int .i64 (x j))) (hl:lo<=q):GU ((w.setCell ⟨q,0,none⟩ (.int .i64 n)).setCell ⟨q,1,none⟩ (.slice B n d)) q lo n:=by
 have hf:=fr2 w q (.int .i64 n) (.slice B n d);refine⟨B,d,x,h.set,(ho.keep hf (.inr nr_)).mono (by omega) hf.size,fun e=> ?_⟩;rcases ho.at_block with e1|⟨g,e1,hg,_⟩
 ·rw[e1] at e;cases e
 ·rw[e1] at e;simp only[Option.some.injEq,Addr.mk.injEq,and_true] at e;omega
end
def nmOk (t:ByteArray):Prop:=t.toList= [112,97,116,104]\/t.toList= [99,121,99,108,101]\/t.toList= [99,111,109,112,108,101,116,101]\/t.toList= [115,116,97,114]\/t.toList= [119,104,101,101,108]
set_option maxRecDepth 100000 in
theorem NamedGraph_path {t:ByteArray} {n:Nat} (w:World) (h:t.toList= [112,97,116,104]) (hn1:1<=n) (hn7:n<=7):
 Calls Tryz.prog 148 #[.string t,.int .i64 n] w fun e w'=> ∃(A:Option Addr) (c:Nat) (x:Nat->Int),e=.returned (.tuple #[.agg #[.int .i64 n,.slice A n c],.bool true])/\Own w' w.heap.size w'.heap.size 3 1 A n c (fun j=> .int .i64 (x j))/\Below w.heap.size w w':=by
 obtain⟨W,hW⟩: ∃W,W=(w.alloc (Obj.cells #[.int .i64 0,.slice none 0 0] 26)):=⟨_,rfl⟩;have HB:Hid (From w W):=by rw[hW];exact From.alloc _ _
 have HD:Hid (GC W w.heap.size 0 none 0 0):=by rw[hW];exact GC.new _ _ _ _ _
 have HW:=hh_ hW;have KN:Hid (decide ((1:Int)<=n/\(n:Int)<=7)=true):=by show _=_;exact decide_eq_true (by omega)
 clear hW;have f0:(t.toList== [112,97,116,104])=true:=by rw[h];rfl
 have f1:(t.toList== [99,121,99,108,101])=false:=by rw[h];rfl
 have f2:(t.toList== [99,111,109,112,108,101,116,101])=false:=by rw[h];rfl
 have f3:(t.toList== [115,116,97,114])=false:=by rw[h];rfl
 have f4:(t.toList== [119,104,101,101,108])=false:=by rw[h];rfl
 have g0:(t.toList != [112,97,116,104])=false:=by rw[h];rfl
 have g1:(t.toList != [99,121,99,108,101])=true:=by rw[h];rfl
 have g2:(t.toList != [99,111,109,112,108,101,116,101])=true:=by rw[h];rfl
 have g3:(t.toList != [115,116,97,114])=true:=by rw[h];rfl
 have g4:(t.toList != [119,104,101,101,108])=true:=by rw[h];rfl
 clear h;go_enter Tryz.func148,Tryz.ntmps148;go_wp2_with fail
 rw[<-HW.out];refine(l1In_b (n:=(n:Int)) (lo:=1) (hi:=7) W KN.out).mono ?_;rintro e w1 ⟨rfl,hb1⟩;clear HW;replace HB:=hh_ (HB.keep hb1);replace HD:=hh_ (HD.keep hb1);clear hb1;clear KN;obtain⟨W2,hmk,hO2,hb2⟩:=made_own w1 n (by omega);have HO2:Hid (Own W2 w1.heap.size (w1.heap.size+1) 3 1 (some ⟨w1.heap.size,0,none⟩) n n (fun _=> .int .i64 0)):=hO2;have hq:w.heap.size<w1.heap.size:=HD.lt;have hs2:w1.heap.size<W2.heap.size:=by
  obtain⟨g',e,_,_,hlt,_⟩:=hO2.at_ (by omega);simp only[Option.some.injEq,Addr.mk.injEq,and_true] at e;omega
 obtain⟨W3,hW3⟩: ∃W3,W3=W2.alloc (Obj.cells #[.int .i64 n,.slice (some ⟨w1.heap.size,0,none⟩) n n] 26):=⟨_,rfl⟩;have HU3:Hid (GU W3 W2.heap.size w1.heap.size n):=by
  rw[hW3];refine⟨some ⟨w1.heap.size,0,none⟩,n,fun _=>0,GC.new _ _ _ _ _,(hO2.alloc _).mono nr_ (by simp;omega),fun e=> ?_⟩;simp only[Option.some.injEq,Addr.mk.injEq,and_true] at e;omega
 have HB3:Hid (Below w1.heap.size w1 W3):=by rw[hW3];exact hb2.alloc hb2.size _
 have HW3:=hh_ hW3;clear hW3 hO2 hb2;go_wp2;rw[<-HW3.out];clear HW3 hmk;go_loopw [7] (fun iv wr=> ∃v:Nat,v<=n/\iv=.int .i64 v/\Hid (GU wr W2.heap.size w1.heap.size n)/\Hid (Below w1.heap.size w1 wr)) (fun iv _=>n-(intOf iv).toNat);case atStart=>exact⟨0,Nat.zero_le _,rfl,HU3,HB3⟩
 case round=>
  clear HU3 HB3;obtain⟨v,hv,rfl,HUr,HBr⟩:=hrel;by_cases hvn:v<n
  ·have i1:(v:Int)<n:=by omega
   go_wp2;go_loopw [8] (fun iv wz=> ∃u:Nat,v<u/\u<=n/\iv=.int .i64 u/\Hid (GU wz W2.heap.size w1.heap.size n)/\Hid (Below w1.heap.size w1 wz)) (fun iv _=>n-(intOf iv).toNat);case atStart=>exact⟨v+1,by omega,by omega,by go_num,HUr,HBr⟩
   case round=>
    clear HUr HBr;obtain⟨u,hvu,hu,rfl,HUz,HBz⟩:=hrel;by_cases hun:u<n
    ·have i2:(u:Int)<n:=by omega
     obtain⟨A1,c1,x1,hg1,ho1,hne⟩:=HUz.ex;have HG1:=hh_ hg1;have hz1:W2.heap.size<wr.heap.size:=hg1.lt;have e0:=hg1.c0;have e1:=hg1.c1;have KA:Hid (Calls Tryz.prog 91 #[.agg #[.int .i64 n,.slice A1 n c1],.int .i64 v,.int .i64 u] wr _):=AddEdge_s (n:Int) A1 n c1 x1 v u wr wr.heap.size ho1.rd nr_ (by omega);clear hg1 ho1 hne;obtain⟨b_a1,a1⟩: ∃b,((u:Int)==(v:Int)+1)=b:=⟨_,rfl⟩;cases b_a1
     all_goals
      go_wp2_with ((go_at_call 91;(with_reducible refine KA.out.mono ?_);rintro e w5 ⟨A5,c5,rfl,hO5,hb5⟩;have hn5:=HG1.out.keep hb5;have n0:=hn5.c0;have n1:=hn5.c1;have n2:=hn5.f0;have n3:=hn5.f1))
      first
       |(have HU6:Hid (GU ((w5.setCell ⟨W2.heap.size,0,none⟩ (.int .i64 n)).setCell ⟨W2.heap.size,1,none⟩ (.slice A5 n c5)) W2.heap.size w1.heap.size n):=GU.set hn5 (hO5.mono (by omega) nr_) (by omega)
         have HB6:Hid (Below w1.heap.size w1 ((w5.setCell ⟨W2.heap.size,0,none⟩ (.int .i64 n)).setCell ⟨W2.heap.size,1,none⟩ (.slice A5 n c5))):=(HBz.trans (hb5.mono (by omega))).trans ((fr2 w5 W2.heap.size _ _).below (by omega) (by have:=hb5.size;omega));clear hO5 hb5 hn5 n0 n1 n2 n3;go_roundw;case rel=>exact⟨u+1,by omega,by omega,by go_num,HU6,HB6⟩
         case measure=>(simp[intOf]<;>omega))
       |(go_roundw
         case rel=>exact⟨u+1,by omega,by omega,by go_num,HUz,HBz⟩
         case measure=>(simp[intOf]<;>omega))
    ·obtain rfl:u=n:=by omega
     have i2:(u:Int)<=u:=Int.le_refl _;go_wp2;go_roundw;case rel=>exact⟨v+1,by omega,by go_num,HUz,HBz⟩
     case measure=>simp[intOf]<;>omega
  ·obtain rfl:v=n:=by omega
   have i1:(v:Int)<=v:=Int.le_refl _;have hdx:=(HD.keep HBr.out);have d0:=hdx.c0;have d1:=hdx.c1;have d2:=hdx.f0;have d3:=hdx.f1;obtain⟨A1,c1,x1,hg1,ho1,hne⟩:=HUr.ex;have e0:=hg1.c0;have e1:=hg1.c1;have HO1:=hh_ ho1;clear hg1 ho1 hne hdx;obtain⟨b9,a9⟩: ∃b,((v:Int)==1)=b:=⟨_,rfl⟩;cases b9
   all_goals
    go_wp2;have HE:=((HB.keep HBr.out).set (q:=w.heap.size) nr_ (.int .i64 v) (.slice A1 v c1)).below;have O1:=((HO1.keep (fr2 wr w.heap.size (.int .i64 v) (.slice A1 v c1)) (.inr (by omega))).mono (show w.heap.size<=w1.heap.size by omega) (fr2 wr w.heap.size (.int .i64 v) (.slice A1 v c1)).size);exact bodyPost_ret (v:=.tuple #[.agg #[.int .i64 v,.slice A1 v c1],.bool true]) (by simp[results,Tryz.results148,go_sem, *]) rfl ⟨A1,c1,x1,rfl,O1,HE⟩
set_option maxRecDepth 100000 in
theorem NamedGraph_cycle {t:ByteArray} {n:Nat} (w:World) (h:t.toList= [99,121,99,108,101]) (hn1:1<=n) (hn7:n<=7):
 Calls Tryz.prog 148 #[.string t,.int .i64 n] w fun e w'=> ∃(A:Option Addr) (c:Nat) (x:Nat->Int),e=.returned (.tuple #[.agg #[.int .i64 n,.slice A n c],.bool true])/\Own w' w.heap.size w'.heap.size 3 1 A n c (fun j=> .int .i64 (x j))/\Below w.heap.size w w':=by
 obtain⟨W,hW⟩: ∃W,W=(w.alloc (Obj.cells #[.int .i64 0,.slice none 0 0] 26)):=⟨_,rfl⟩;have HB:Hid (From w W):=by rw[hW];exact From.alloc _ _
 have HD:Hid (GC W w.heap.size 0 none 0 0):=by rw[hW];exact GC.new _ _ _ _ _
 have HW:=hh_ hW;have KN:Hid (decide ((1:Int)<=n/\(n:Int)<=7)=true):=by show _=_;exact decide_eq_true (by omega)
 clear hW;have f0:(t.toList== [112,97,116,104])=false:=by rw[h];rfl
 have f1:(t.toList== [99,121,99,108,101])=true:=by rw[h];rfl
 have f2:(t.toList== [99,111,109,112,108,101,116,101])=false:=by rw[h];rfl
 have f3:(t.toList== [115,116,97,114])=false:=by rw[h];rfl
 have f4:(t.toList== [119,104,101,101,108])=false:=by rw[h];rfl
 have g0:(t.toList != [112,97,116,104])=true:=by rw[h];rfl
 have g1:(t.toList != [99,121,99,108,101])=false:=by rw[h];rfl
 have g2:(t.toList != [99,111,109,112,108,101,116,101])=true:=by rw[h];rfl
 have g3:(t.toList != [115,116,97,114])=true:=by rw[h];rfl
 have g4:(t.toList != [119,104,101,101,108])=true:=by rw[h];rfl
 clear h;go_enter Tryz.func148,Tryz.ntmps148;go_wp2_with fail
 rw[<-HW.out];refine(l1In_b (n:=(n:Int)) (lo:=1) (hi:=7) W KN.out).mono ?_;rintro e w1 ⟨rfl,hb1⟩;clear HW;replace HB:=hh_ (HB.keep hb1);replace HD:=hh_ (HD.keep hb1);clear hb1;clear KN;obtain⟨W2,hmk,hO2,hb2⟩:=made_own w1 n (by omega);have HO2:Hid (Own W2 w1.heap.size (w1.heap.size+1) 3 1 (some ⟨w1.heap.size,0,none⟩) n n (fun _=> .int .i64 0)):=hO2;have hq:w.heap.size<w1.heap.size:=HD.lt;have hs2:w1.heap.size<W2.heap.size:=by
  obtain⟨g',e,_,_,hlt,_⟩:=hO2.at_ (by omega);simp only[Option.some.injEq,Addr.mk.injEq,and_true] at e;omega
 obtain⟨W3,hW3⟩: ∃W3,W3=W2.alloc (Obj.cells #[.int .i64 n,.slice (some ⟨w1.heap.size,0,none⟩) n n] 26):=⟨_,rfl⟩;have HU3:Hid (GU W3 W2.heap.size w1.heap.size n):=by
  rw[hW3];refine⟨some ⟨w1.heap.size,0,none⟩,n,fun _=>0,GC.new _ _ _ _ _,(hO2.alloc _).mono nr_ (by simp;omega),fun e=> ?_⟩;simp only[Option.some.injEq,Addr.mk.injEq,and_true] at e;omega
 have HB3:Hid (Below w1.heap.size w1 W3):=by rw[hW3];exact hb2.alloc hb2.size _
 have HW3:=hh_ hW3;clear hW3 hO2 hb2;go_wp2;rw[<-HW3.out];clear HW3 hmk;go_loopw [7] (fun iv wr=> ∃v:Nat,v<=n/\iv=.int .i64 v/\Hid (GU wr W2.heap.size w1.heap.size n)/\Hid (Below w1.heap.size w1 wr)) (fun iv _=>n-(intOf iv).toNat);case atStart=>exact⟨0,Nat.zero_le _,rfl,HU3,HB3⟩
 case round=>
  clear HU3 HB3;obtain⟨v,hv,rfl,HUr,HBr⟩:=hrel;by_cases hvn:v<n
  ·have i1:(v:Int)<n:=by omega
   go_wp2;go_loopw [8] (fun iv wz=> ∃u:Nat,v<u/\u<=n/\iv=.int .i64 u/\Hid (GU wz W2.heap.size w1.heap.size n)/\Hid (Below w1.heap.size w1 wz)) (fun iv _=>n-(intOf iv).toNat);case atStart=>exact⟨v+1,by omega,by omega,by go_num,HUr,HBr⟩
   case round=>
    clear HUr HBr;obtain⟨u,hvu,hu,rfl,HUz,HBz⟩:=hrel;by_cases hun:u<n
    ·have i2:(u:Int)<n:=by omega
     obtain⟨A1,c1,x1,hg1,ho1,hne⟩:=HUz.ex;have HG1:=hh_ hg1;have hz1:W2.heap.size<wr.heap.size:=hg1.lt;have e0:=hg1.c0;have e1:=hg1.c1;have KA:Hid (Calls Tryz.prog 91 #[.agg #[.int .i64 n,.slice A1 n c1],.int .i64 v,.int .i64 u] wr _):=AddEdge_s (n:Int) A1 n c1 x1 v u wr wr.heap.size ho1.rd nr_ (by omega);clear hg1 ho1 hne;obtain⟨b_a1,a1⟩: ∃b,((u:Int)==(v:Int)+1)=b:=⟨_,rfl⟩;obtain⟨b_a2,a2⟩: ∃b,((v:Int)==0)=b:=⟨_,rfl⟩;obtain⟨b_a3,a3⟩: ∃b,((u:Int)==(n:Int)-1)=b:=⟨_,rfl⟩;cases b_a1
     all_goals cases b_a2
     all_goals cases b_a3
     all_goals
      go_wp2_with ((go_at_call 91;(with_reducible refine KA.out.mono ?_);rintro e w5 ⟨A5,c5,rfl,hO5,hb5⟩;have hn5:=HG1.out.keep hb5;have n0:=hn5.c0;have n1:=hn5.c1;have n2:=hn5.f0;have n3:=hn5.f1))
      first
       |(have HU6:Hid (GU ((w5.setCell ⟨W2.heap.size,0,none⟩ (.int .i64 n)).setCell ⟨W2.heap.size,1,none⟩ (.slice A5 n c5)) W2.heap.size w1.heap.size n):=GU.set hn5 (hO5.mono (by omega) nr_) (by omega)
         have HB6:Hid (Below w1.heap.size w1 ((w5.setCell ⟨W2.heap.size,0,none⟩ (.int .i64 n)).setCell ⟨W2.heap.size,1,none⟩ (.slice A5 n c5))):=(HBz.trans (hb5.mono (by omega))).trans ((fr2 w5 W2.heap.size _ _).below (by omega) (by have:=hb5.size;omega));clear hO5 hb5 hn5 n0 n1 n2 n3;go_roundw;case rel=>exact⟨u+1,by omega,by omega,by go_num,HU6,HB6⟩
         case measure=>(simp[intOf]<;>omega))
       |(go_roundw
         case rel=>exact⟨u+1,by omega,by omega,by go_num,HUz,HBz⟩
         case measure=>(simp[intOf]<;>omega))
    ·obtain rfl:u=n:=by omega
     have i2:(u:Int)<=u:=Int.le_refl _;go_wp2;go_roundw;case rel=>exact⟨v+1,by omega,by go_num,HUz,HBz⟩
     case measure=>simp[intOf]<;>omega
  ·obtain rfl:v=n:=by omega
   have i1:(v:Int)<=v:=Int.le_refl _;have hdx:=(HD.keep HBr.out);have d0:=hdx.c0;have d1:=hdx.c1;have d2:=hdx.f0;have d3:=hdx.f1;obtain⟨A1,c1,x1,hg1,ho1,hne⟩:=HUr.ex;have e0:=hg1.c0;have e1:=hg1.c1;have HO1:=hh_ ho1;clear hg1 ho1 hne hdx;obtain⟨b9,a9⟩: ∃b,((v:Int)==1)=b:=⟨_,rfl⟩;cases b9
   all_goals
    go_wp2;have HE:=((HB.keep HBr.out).set (q:=w.heap.size) nr_ (.int .i64 v) (.slice A1 v c1)).below;have O1:=((HO1.keep (fr2 wr w.heap.size (.int .i64 v) (.slice A1 v c1)) (.inr (by omega))).mono (show w.heap.size<=w1.heap.size by omega) (fr2 wr w.heap.size (.int .i64 v) (.slice A1 v c1)).size);exact bodyPost_ret (v:=.tuple #[.agg #[.int .i64 v,.slice A1 v c1],.bool true]) (by simp[results,Tryz.results148,go_sem, *]) rfl ⟨A1,c1,x1,rfl,O1,HE⟩
set_option maxRecDepth 100000 in
theorem NamedGraph_complete {t:ByteArray} {n:Nat} (w:World) (h:t.toList= [99,111,109,112,108,101,116,101]) (hn1:1<=n) (hn7:n<=7):
 Calls Tryz.prog 148 #[.string t,.int .i64 n] w fun e w'=> ∃(A:Option Addr) (c:Nat) (x:Nat->Int),e=.returned (.tuple #[.agg #[.int .i64 n,.slice A n c],.bool true])/\Own w' w.heap.size w'.heap.size 3 1 A n c (fun j=> .int .i64 (x j))/\Below w.heap.size w w':=by
 obtain⟨W,hW⟩: ∃W,W=(w.alloc (Obj.cells #[.int .i64 0,.slice none 0 0] 26)):=⟨_,rfl⟩;have HB:Hid (From w W):=by rw[hW];exact From.alloc _ _
 have HD:Hid (GC W w.heap.size 0 none 0 0):=by rw[hW];exact GC.new _ _ _ _ _
 have HW:=hh_ hW;have KN:Hid (decide ((1:Int)<=n/\(n:Int)<=7)=true):=by show _=_;exact decide_eq_true (by omega)
 clear hW;have f0:(t.toList== [112,97,116,104])=false:=by rw[h];rfl
 have f1:(t.toList== [99,121,99,108,101])=false:=by rw[h];rfl
 have f2:(t.toList== [99,111,109,112,108,101,116,101])=true:=by rw[h];rfl
 have f3:(t.toList== [115,116,97,114])=false:=by rw[h];rfl
 have f4:(t.toList== [119,104,101,101,108])=false:=by rw[h];rfl
 have g0:(t.toList != [112,97,116,104])=true:=by rw[h];rfl
 have g1:(t.toList != [99,121,99,108,101])=true:=by rw[h];rfl
 have g2:(t.toList != [99,111,109,112,108,101,116,101])=false:=by rw[h];rfl
 have g3:(t.toList != [115,116,97,114])=true:=by rw[h];rfl
 have g4:(t.toList != [119,104,101,101,108])=true:=by rw[h];rfl
 clear h;go_enter Tryz.func148,Tryz.ntmps148;go_wp2_with fail
 rw[<-HW.out];refine(l1In_b (n:=(n:Int)) (lo:=1) (hi:=7) W KN.out).mono ?_;rintro e w1 ⟨rfl,hb1⟩;clear HW;replace HB:=hh_ (HB.keep hb1);replace HD:=hh_ (HD.keep hb1);clear hb1;clear KN;obtain⟨W2,hmk,hO2,hb2⟩:=made_own w1 n (by omega);have HO2:Hid (Own W2 w1.heap.size (w1.heap.size+1) 3 1 (some ⟨w1.heap.size,0,none⟩) n n (fun _=> .int .i64 0)):=hO2;have hq:w.heap.size<w1.heap.size:=HD.lt;have hs2:w1.heap.size<W2.heap.size:=by
  obtain⟨g',e,_,_,hlt,_⟩:=hO2.at_ (by omega);simp only[Option.some.injEq,Addr.mk.injEq,and_true] at e;omega
 obtain⟨W3,hW3⟩: ∃W3,W3=W2.alloc (Obj.cells #[.int .i64 n,.slice (some ⟨w1.heap.size,0,none⟩) n n] 26):=⟨_,rfl⟩;have HU3:Hid (GU W3 W2.heap.size w1.heap.size n):=by
  rw[hW3];refine⟨some ⟨w1.heap.size,0,none⟩,n,fun _=>0,GC.new _ _ _ _ _,(hO2.alloc _).mono nr_ (by simp;omega),fun e=> ?_⟩;simp only[Option.some.injEq,Addr.mk.injEq,and_true] at e;omega
 have HB3:Hid (Below w1.heap.size w1 W3):=by rw[hW3];exact hb2.alloc hb2.size _
 have HW3:=hh_ hW3;clear hW3 hO2 hb2;go_wp2;rw[<-HW3.out];clear HW3 hmk;go_loopw [7] (fun iv wr=> ∃v:Nat,v<=n/\iv=.int .i64 v/\Hid (GU wr W2.heap.size w1.heap.size n)/\Hid (Below w1.heap.size w1 wr)) (fun iv _=>n-(intOf iv).toNat);case atStart=>exact⟨0,Nat.zero_le _,rfl,HU3,HB3⟩
 case round=>
  clear HU3 HB3;obtain⟨v,hv,rfl,HUr,HBr⟩:=hrel;by_cases hvn:v<n
  ·have i1:(v:Int)<n:=by omega
   go_wp2;go_loopw [8] (fun iv wz=> ∃u:Nat,v<u/\u<=n/\iv=.int .i64 u/\Hid (GU wz W2.heap.size w1.heap.size n)/\Hid (Below w1.heap.size w1 wz)) (fun iv _=>n-(intOf iv).toNat);case atStart=>exact⟨v+1,by omega,by omega,by go_num,HUr,HBr⟩
   case round=>
    clear HUr HBr;obtain⟨u,hvu,hu,rfl,HUz,HBz⟩:=hrel;by_cases hun:u<n
    ·have i2:(u:Int)<n:=by omega
     obtain⟨A1,c1,x1,hg1,ho1,hne⟩:=HUz.ex;have HG1:=hh_ hg1;have hz1:W2.heap.size<wr.heap.size:=hg1.lt;have e0:=hg1.c0;have e1:=hg1.c1;have KA:Hid (Calls Tryz.prog 91 #[.agg #[.int .i64 n,.slice A1 n c1],.int .i64 v,.int .i64 u] wr _):=AddEdge_s (n:Int) A1 n c1 x1 v u wr wr.heap.size ho1.rd nr_ (by omega);clear hg1 ho1 hne;all_goals
      go_wp2_with ((go_at_call 91;(with_reducible refine KA.out.mono ?_);rintro e w5 ⟨A5,c5,rfl,hO5,hb5⟩;have hn5:=HG1.out.keep hb5;have n0:=hn5.c0;have n1:=hn5.c1;have n2:=hn5.f0;have n3:=hn5.f1))
      first
       |(have HU6:Hid (GU ((w5.setCell ⟨W2.heap.size,0,none⟩ (.int .i64 n)).setCell ⟨W2.heap.size,1,none⟩ (.slice A5 n c5)) W2.heap.size w1.heap.size n):=GU.set hn5 (hO5.mono (by omega) nr_) (by omega)
         have HB6:Hid (Below w1.heap.size w1 ((w5.setCell ⟨W2.heap.size,0,none⟩ (.int .i64 n)).setCell ⟨W2.heap.size,1,none⟩ (.slice A5 n c5))):=(HBz.trans (hb5.mono (by omega))).trans ((fr2 w5 W2.heap.size _ _).below (by omega) (by have:=hb5.size;omega));clear hO5 hb5 hn5 n0 n1 n2 n3;go_roundw;case rel=>exact⟨u+1,by omega,by omega,by go_num,HU6,HB6⟩
         case measure=>(simp[intOf]<;>omega))
       |(go_roundw
         case rel=>exact⟨u+1,by omega,by omega,by go_num,HUz,HBz⟩
         case measure=>(simp[intOf]<;>omega))
    ·obtain rfl:u=n:=by omega
     have i2:(u:Int)<=u:=Int.le_refl _;go_wp2;go_roundw;case rel=>exact⟨v+1,by omega,by go_num,HUz,HBz⟩
     case measure=>simp[intOf]<;>omega
  ·obtain rfl:v=n:=by omega
   have i1:(v:Int)<=v:=Int.le_refl _;have hdx:=(HD.keep HBr.out);have d0:=hdx.c0;have d1:=hdx.c1;have d2:=hdx.f0;have d3:=hdx.f1;obtain⟨A1,c1,x1,hg1,ho1,hne⟩:=HUr.ex;have e0:=hg1.c0;have e1:=hg1.c1;have HO1:=hh_ ho1;clear hg1 ho1 hne hdx;obtain⟨b9,a9⟩: ∃b,((v:Int)==1)=b:=⟨_,rfl⟩;cases b9
   all_goals
    go_wp2;have HE:=((HB.keep HBr.out).set (q:=w.heap.size) nr_ (.int .i64 v) (.slice A1 v c1)).below;have O1:=((HO1.keep (fr2 wr w.heap.size (.int .i64 v) (.slice A1 v c1)) (.inr (by omega))).mono (show w.heap.size<=w1.heap.size by omega) (fr2 wr w.heap.size (.int .i64 v) (.slice A1 v c1)).size);exact bodyPost_ret (v:=.tuple #[.agg #[.int .i64 v,.slice A1 v c1],.bool true]) (by simp[results,Tryz.results148,go_sem, *]) rfl ⟨A1,c1,x1,rfl,O1,HE⟩
set_option maxRecDepth 100000 in
theorem NamedGraph_star {t:ByteArray} {n:Nat} (w:World) (h:t.toList= [115,116,97,114]) (hn1:1<=n) (hn7:n<=7):
 Calls Tryz.prog 148 #[.string t,.int .i64 n] w fun e w'=> ∃(A:Option Addr) (c:Nat) (x:Nat->Int),e=.returned (.tuple #[.agg #[.int .i64 n,.slice A n c],.bool true])/\Own w' w.heap.size w'.heap.size 3 1 A n c (fun j=> .int .i64 (x j))/\Below w.heap.size w w':=by
 obtain⟨W,hW⟩: ∃W,W=(w.alloc (Obj.cells #[.int .i64 0,.slice none 0 0] 26)):=⟨_,rfl⟩;have HB:Hid (From w W):=by rw[hW];exact From.alloc _ _
 have HD:Hid (GC W w.heap.size 0 none 0 0):=by rw[hW];exact GC.new _ _ _ _ _
 have HW:=hh_ hW;have KN:Hid (decide ((1:Int)<=n/\(n:Int)<=7)=true):=by show _=_;exact decide_eq_true (by omega)
 clear hW;have f0:(t.toList== [112,97,116,104])=false:=by rw[h];rfl
 have f1:(t.toList== [99,121,99,108,101])=false:=by rw[h];rfl
 have f2:(t.toList== [99,111,109,112,108,101,116,101])=false:=by rw[h];rfl
 have f3:(t.toList== [115,116,97,114])=true:=by rw[h];rfl
 have f4:(t.toList== [119,104,101,101,108])=false:=by rw[h];rfl
 have g0:(t.toList != [112,97,116,104])=true:=by rw[h];rfl
 have g1:(t.toList != [99,121,99,108,101])=true:=by rw[h];rfl
 have g2:(t.toList != [99,111,109,112,108,101,116,101])=true:=by rw[h];rfl
 have g3:(t.toList != [115,116,97,114])=false:=by rw[h];rfl
 have g4:(t.toList != [119,104,101,101,108])=true:=by rw[h];rfl
 clear h;go_enter Tryz.func148,Tryz.ntmps148;go_wp2_with fail
 rw[<-HW.out];refine(l1In_b (n:=(n:Int)) (lo:=1) (hi:=7) W KN.out).mono ?_;rintro e w1 ⟨rfl,hb1⟩;clear HW;replace HB:=hh_ (HB.keep hb1);replace HD:=hh_ (HD.keep hb1);clear hb1;clear KN;obtain⟨W2,hmk,hO2,hb2⟩:=made_own w1 n (by omega);have HO2:Hid (Own W2 w1.heap.size (w1.heap.size+1) 3 1 (some ⟨w1.heap.size,0,none⟩) n n (fun _=> .int .i64 0)):=hO2;have hq:w.heap.size<w1.heap.size:=HD.lt;have hs2:w1.heap.size<W2.heap.size:=by
  obtain⟨g',e,_,_,hlt,_⟩:=hO2.at_ (by omega);simp only[Option.some.injEq,Addr.mk.injEq,and_true] at e;omega
 obtain⟨W3,hW3⟩: ∃W3,W3=W2.alloc (Obj.cells #[.int .i64 n,.slice (some ⟨w1.heap.size,0,none⟩) n n] 26):=⟨_,rfl⟩;have HU3:Hid (GU W3 W2.heap.size w1.heap.size n):=by
  rw[hW3];refine⟨some ⟨w1.heap.size,0,none⟩,n,fun _=>0,GC.new _ _ _ _ _,(hO2.alloc _).mono nr_ (by simp;omega),fun e=> ?_⟩;simp only[Option.some.injEq,Addr.mk.injEq,and_true] at e;omega
 have HB3:Hid (Below w1.heap.size w1 W3):=by rw[hW3];exact hb2.alloc hb2.size _
 have HW3:=hh_ hW3;clear hW3 hO2 hb2;go_wp2;rw[<-HW3.out];clear HW3 hmk;go_loopw [7] (fun iv wr=> ∃v:Nat,v<=n/\iv=.int .i64 v/\Hid (GU wr W2.heap.size w1.heap.size n)/\Hid (Below w1.heap.size w1 wr)) (fun iv _=>n-(intOf iv).toNat);case atStart=>exact⟨0,Nat.zero_le _,rfl,HU3,HB3⟩
 case round=>
  clear HU3 HB3;obtain⟨v,hv,rfl,HUr,HBr⟩:=hrel;by_cases hvn:v<n
  ·have i1:(v:Int)<n:=by omega
   go_wp2;go_loopw [8] (fun iv wz=> ∃u:Nat,v<u/\u<=n/\iv=.int .i64 u/\Hid (GU wz W2.heap.size w1.heap.size n)/\Hid (Below w1.heap.size w1 wz)) (fun iv _=>n-(intOf iv).toNat);case atStart=>exact⟨v+1,by omega,by omega,by go_num,HUr,HBr⟩
   case round=>
    clear HUr HBr;obtain⟨u,hvu,hu,rfl,HUz,HBz⟩:=hrel;by_cases hun:u<n
    ·have i2:(u:Int)<n:=by omega
     obtain⟨A1,c1,x1,hg1,ho1,hne⟩:=HUz.ex;have HG1:=hh_ hg1;have hz1:W2.heap.size<wr.heap.size:=hg1.lt;have e0:=hg1.c0;have e1:=hg1.c1;have KA:Hid (Calls Tryz.prog 91 #[.agg #[.int .i64 n,.slice A1 n c1],.int .i64 v,.int .i64 u] wr _):=AddEdge_s (n:Int) A1 n c1 x1 v u wr wr.heap.size ho1.rd nr_ (by omega);clear hg1 ho1 hne;obtain⟨b_a2,a2⟩: ∃b,((v:Int)==0)=b:=⟨_,rfl⟩;cases b_a2
     all_goals
      go_wp2_with ((go_at_call 91;(with_reducible refine KA.out.mono ?_);rintro e w5 ⟨A5,c5,rfl,hO5,hb5⟩;have hn5:=HG1.out.keep hb5;have n0:=hn5.c0;have n1:=hn5.c1;have n2:=hn5.f0;have n3:=hn5.f1))
      first
       |(have HU6:Hid (GU ((w5.setCell ⟨W2.heap.size,0,none⟩ (.int .i64 n)).setCell ⟨W2.heap.size,1,none⟩ (.slice A5 n c5)) W2.heap.size w1.heap.size n):=GU.set hn5 (hO5.mono (by omega) nr_) (by omega)
         have HB6:Hid (Below w1.heap.size w1 ((w5.setCell ⟨W2.heap.size,0,none⟩ (.int .i64 n)).setCell ⟨W2.heap.size,1,none⟩ (.slice A5 n c5))):=(HBz.trans (hb5.mono (by omega))).trans ((fr2 w5 W2.heap.size _ _).below (by omega) (by have:=hb5.size;omega));clear hO5 hb5 hn5 n0 n1 n2 n3;go_roundw;case rel=>exact⟨u+1,by omega,by omega,by go_num,HU6,HB6⟩
         case measure=>(simp[intOf]<;>omega))
       |(go_roundw
         case rel=>exact⟨u+1,by omega,by omega,by go_num,HUz,HBz⟩
         case measure=>(simp[intOf]<;>omega))
    ·obtain rfl:u=n:=by omega
     have i2:(u:Int)<=u:=Int.le_refl _;go_wp2;go_roundw;case rel=>exact⟨v+1,by omega,by go_num,HUz,HBz⟩
     case measure=>simp[intOf]<;>omega
  ·obtain rfl:v=n:=by omega
   have i1:(v:Int)<=v:=Int.le_refl _;have hdx:=(HD.keep HBr.out);have d0:=hdx.c0;have d1:=hdx.c1;have d2:=hdx.f0;have d3:=hdx.f1;obtain⟨A1,c1,x1,hg1,ho1,hne⟩:=HUr.ex;have e0:=hg1.c0;have e1:=hg1.c1;have HO1:=hh_ ho1;clear hg1 ho1 hne hdx;obtain⟨b9,a9⟩: ∃b,((v:Int)==1)=b:=⟨_,rfl⟩;cases b9
   all_goals
    go_wp2;have HE:=((HB.keep HBr.out).set (q:=w.heap.size) nr_ (.int .i64 v) (.slice A1 v c1)).below;have O1:=((HO1.keep (fr2 wr w.heap.size (.int .i64 v) (.slice A1 v c1)) (.inr (by omega))).mono (show w.heap.size<=w1.heap.size by omega) (fr2 wr w.heap.size (.int .i64 v) (.slice A1 v c1)).size);exact bodyPost_ret (v:=.tuple #[.agg #[.int .i64 v,.slice A1 v c1],.bool true]) (by simp[results,Tryz.results148,go_sem, *]) rfl ⟨A1,c1,x1,rfl,O1,HE⟩
set_option maxRecDepth 100000 in
theorem NamedGraph_wheel {t:ByteArray} {n:Nat} (w:World) (h:t.toList= [119,104,101,101,108]) (hn1:1<=n) (hn7:n<=7):
 Calls Tryz.prog 148 #[.string t,.int .i64 n] w fun e w'=> ∃(A:Option Addr) (c:Nat) (x:Nat->Int),e=.returned (.tuple #[.agg #[.int .i64 n,.slice A n c],.bool true])/\Own w' w.heap.size w'.heap.size 3 1 A n c (fun j=> .int .i64 (x j))/\Below w.heap.size w w':=by
 obtain⟨W,hW⟩: ∃W,W=(w.alloc (Obj.cells #[.int .i64 0,.slice none 0 0] 26)):=⟨_,rfl⟩;have HB:Hid (From w W):=by rw[hW];exact From.alloc _ _
 have HD:Hid (GC W w.heap.size 0 none 0 0):=by rw[hW];exact GC.new _ _ _ _ _
 have HW:=hh_ hW;have KN:Hid (decide ((1:Int)<=n/\(n:Int)<=7)=true):=by show _=_;exact decide_eq_true (by omega)
 clear hW;have f0:(t.toList== [112,97,116,104])=false:=by rw[h];rfl
 have f1:(t.toList== [99,121,99,108,101])=false:=by rw[h];rfl
 have f2:(t.toList== [99,111,109,112,108,101,116,101])=false:=by rw[h];rfl
 have f3:(t.toList== [115,116,97,114])=false:=by rw[h];rfl
 have f4:(t.toList== [119,104,101,101,108])=true:=by rw[h];rfl
 have g0:(t.toList != [112,97,116,104])=true:=by rw[h];rfl
 have g1:(t.toList != [99,121,99,108,101])=true:=by rw[h];rfl
 have g2:(t.toList != [99,111,109,112,108,101,116,101])=true:=by rw[h];rfl
 have g3:(t.toList != [115,116,97,114])=true:=by rw[h];rfl
 have g4:(t.toList != [119,104,101,101,108])=false:=by rw[h];rfl
 clear h;go_enter Tryz.func148,Tryz.ntmps148;go_wp2_with fail
 rw[<-HW.out];refine(l1In_b (n:=(n:Int)) (lo:=1) (hi:=7) W KN.out).mono ?_;rintro e w1 ⟨rfl,hb1⟩;clear HW;replace HB:=hh_ (HB.keep hb1);replace HD:=hh_ (HD.keep hb1);clear hb1;clear KN;obtain⟨W2,hmk,hO2,hb2⟩:=made_own w1 n (by omega);have HO2:Hid (Own W2 w1.heap.size (w1.heap.size+1) 3 1 (some ⟨w1.heap.size,0,none⟩) n n (fun _=> .int .i64 0)):=hO2;have hq:w.heap.size<w1.heap.size:=HD.lt;have hs2:w1.heap.size<W2.heap.size:=by
  obtain⟨g',e,_,_,hlt,_⟩:=hO2.at_ (by omega);simp only[Option.some.injEq,Addr.mk.injEq,and_true] at e;omega
 obtain⟨W3,hW3⟩: ∃W3,W3=W2.alloc (Obj.cells #[.int .i64 n,.slice (some ⟨w1.heap.size,0,none⟩) n n] 26):=⟨_,rfl⟩;have HU3:Hid (GU W3 W2.heap.size w1.heap.size n):=by
  rw[hW3];refine⟨some ⟨w1.heap.size,0,none⟩,n,fun _=>0,GC.new _ _ _ _ _,(hO2.alloc _).mono nr_ (by simp;omega),fun e=> ?_⟩;simp only[Option.some.injEq,Addr.mk.injEq,and_true] at e;omega
 have HB3:Hid (Below w1.heap.size w1 W3):=by rw[hW3];exact hb2.alloc hb2.size _
 have HW3:=hh_ hW3;clear hW3 hO2 hb2;go_wp2;rw[<-HW3.out];clear HW3 hmk;go_loopw [7] (fun iv wr=> ∃v:Nat,v<=n/\iv=.int .i64 v/\Hid (GU wr W2.heap.size w1.heap.size n)/\Hid (Below w1.heap.size w1 wr)) (fun iv _=>n-(intOf iv).toNat);case atStart=>exact⟨0,Nat.zero_le _,rfl,HU3,HB3⟩
 case round=>
  clear HU3 HB3;obtain⟨v,hv,rfl,HUr,HBr⟩:=hrel;by_cases hvn:v<n
  ·have i1:(v:Int)<n:=by omega
   go_wp2;go_loopw [8] (fun iv wz=> ∃u:Nat,v<u/\u<=n/\iv=.int .i64 u/\Hid (GU wz W2.heap.size w1.heap.size n)/\Hid (Below w1.heap.size w1 wz)) (fun iv _=>n-(intOf iv).toNat);case atStart=>exact⟨v+1,by omega,by omega,by go_num,HUr,HBr⟩
   case round=>
    clear HUr HBr;obtain⟨u,hvu,hu,rfl,HUz,HBz⟩:=hrel;by_cases hun:u<n
    ·have i2:(u:Int)<n:=by omega
     obtain⟨A1,c1,x1,hg1,ho1,hne⟩:=HUz.ex;have HG1:=hh_ hg1;have hz1:W2.heap.size<wr.heap.size:=hg1.lt;have e0:=hg1.c0;have e1:=hg1.c1;have KA:Hid (Calls Tryz.prog 91 #[.agg #[.int .i64 n,.slice A1 n c1],.int .i64 v,.int .i64 u] wr _):=AddEdge_s (n:Int) A1 n c1 x1 v u wr wr.heap.size ho1.rd nr_ (by omega);clear hg1 ho1 hne;obtain⟨b_a2,a2⟩: ∃b,((v:Int)==0)=b:=⟨_,rfl⟩;obtain⟨b_a1,a1⟩: ∃b,((u:Int)==(v:Int)+1)=b:=⟨_,rfl⟩;obtain⟨b_a4,a4⟩: ∃b,((v:Int)==1)=b:=⟨_,rfl⟩;obtain⟨b_a3,a3⟩: ∃b,((u:Int)==(n:Int)-1)=b:=⟨_,rfl⟩;cases b_a2
     all_goals cases b_a1
     all_goals cases b_a4
     all_goals cases b_a3
     all_goals
      go_wp2_with ((go_at_call 91;(with_reducible refine KA.out.mono ?_);rintro e w5 ⟨A5,c5,rfl,hO5,hb5⟩;have hn5:=HG1.out.keep hb5;have n0:=hn5.c0;have n1:=hn5.c1;have n2:=hn5.f0;have n3:=hn5.f1))
      first
       |(have HU6:Hid (GU ((w5.setCell ⟨W2.heap.size,0,none⟩ (.int .i64 n)).setCell ⟨W2.heap.size,1,none⟩ (.slice A5 n c5)) W2.heap.size w1.heap.size n):=GU.set hn5 (hO5.mono (by omega) nr_) (by omega)
         have HB6:Hid (Below w1.heap.size w1 ((w5.setCell ⟨W2.heap.size,0,none⟩ (.int .i64 n)).setCell ⟨W2.heap.size,1,none⟩ (.slice A5 n c5))):=(HBz.trans (hb5.mono (by omega))).trans ((fr2 w5 W2.heap.size _ _).below (by omega) (by have:=hb5.size;omega));clear hO5 hb5 hn5 n0 n1 n2 n3;go_roundw;case rel=>exact⟨u+1,by omega,by omega,by go_num,HU6,HB6⟩
         case measure=>(simp[intOf]<;>omega))
       |(go_roundw
         case rel=>exact⟨u+1,by omega,by omega,by go_num,HUz,HBz⟩
         case measure=>(simp[intOf]<;>omega))
    ·obtain rfl:u=n:=by omega
     have i2:(u:Int)<=u:=Int.le_refl _;go_wp2;go_roundw;case rel=>exact⟨v+1,by omega,by go_num,HUz,HBz⟩
     case measure=>simp[intOf]<;>omega
  ·obtain rfl:v=n:=by omega
   have i1:(v:Int)<=v:=Int.le_refl _;have hdx:=(HD.keep HBr.out);have d0:=hdx.c0;have d1:=hdx.c1;have d2:=hdx.f0;have d3:=hdx.f1;obtain⟨A1,c1,x1,hg1,ho1,hne⟩:=HUr.ex;have e0:=hg1.c0;have e1:=hg1.c1;have HO1:=hh_ ho1;clear hg1 ho1 hne hdx;obtain⟨b9,a9⟩: ∃b,((v:Int)==1)=b:=⟨_,rfl⟩;cases b9
   all_goals
    go_wp2;have HE:=((HB.keep HBr.out).set (q:=w.heap.size) nr_ (.int .i64 v) (.slice A1 v c1)).below;have O1:=((HO1.keep (fr2 wr w.heap.size (.int .i64 v) (.slice A1 v c1)) (.inr (by omega))).mono (show w.heap.size<=w1.heap.size by omega) (fr2 wr w.heap.size (.int .i64 v) (.slice A1 v c1)).size);exact bodyPost_ret (v:=.tuple #[.agg #[.int .i64 v,.slice A1 v c1],.bool true]) (by simp[results,Tryz.results148,go_sem, *]) rfl ⟨A1,c1,x1,rfl,O1,HE⟩
end Go.Proofs.YtfabbohijhjpcaaGreatDoor
