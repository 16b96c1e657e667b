/- Lemmas. -/
import Derived.Test.YtfabbohijhjpcaaGreatDoorRbDrwB
/-
-/
namespace Go.Proofs.YtfabbohijhjpcaaGreatDoor
open Go.RowKit
set_option maxHeartbeats 6400000
section
variable {w wr w2 w5:World} {q nb cb Q lo n:Nat} {A:Option Addr}
theorem Fr.past {a b:Nat} (h:Fr q (q+1) w wr) (k:Fr a b wr w2) (ha:w.heap.size<=a):Fr q (q+1) w w2:=
 ⟨k.os.trans h.os,k.tape.trans h.tape,k.output.trans h.output,Nat.le_trans h.size k.size,fun j hj ho=>(k.block j (Nat.lt_of_lt_of_le hj h.size) (.inl (by omega))).trans (h.block j hj ho)⟩
theorem Cu.keepF {a b:Nat} (h:Cu wr q A nb cb) (hf:Fr a b wr w2) (ho:q<a):Cu w2 q A nb cb:=by
 obtain⟨i,k,hi,h0,h1,h2⟩:=h.ex;have hl:=h.lt;exact⟨⟨i,k,hi,frC_ hf h0 hl (.inl ho),frC_ hf h1 hl (.inl ho),frC_ hf h2 hl (.inl ho)⟩,frZ_ hf h.f1 hl (.inl ho),frZ_ hf h.f2 hl (.inl ho),h.by_.keepF hf (by omega) (by omega),h.le⟩
structure DS (w wr:World) (q:Nat) (A:Option Addr) (nb cb Q lo n:Nat):Prop where
 cu:Cu wr q A nb cb
 fr:Fr q (q+1) w wr
 gu:GU wr Q lo n
 d:GC wr w.heap.size 0 none 0 0
 l1:q<w.heap.size
 l2:w.heap.size<lo
 l3:lo<=Q
theorem DS.keep (h:DS w wr q A nb cb Q lo n) (hb:Below wr.heap.size wr w2):DS w w2 q A nb cb Q lo n:=⟨h.cu.keep hb,h.fr.trans (Fr.of_below hb),h.gu.keep hb,h.d.keep hb,h.l1,h.l2,h.l3⟩
theorem DS.draw (h:DS w wr q A nb cb Q lo n) (hd:Dr wr q A nb cb w2):DS w w2 q A nb cb Q lo n:=by
 have h1:=h.l1;have h2:=h.l2;have h3:=h.l3;exact⟨hd.cu,h.fr.trans hd.fr,h.gu.keepF hd.fr (by omega) (by omega),h.d.keepF hd.fr (.inr (by omega)),h1,h2,h3⟩
theorem DS.set {B:Option Addr} {d:Nat} {x:Nat->Int} (h:DS w wr q A nb cb Q lo n) (hb:Below wr.heap.size wr w5) (ho:Own w5 (Q+1) w5.heap.size 3 1 B n d (fun j=> .int .i64 (x j))):DS w ((w5.setCell ⟨Q,0,none⟩ (.int .i64 n)).setCell ⟨Q,1,none⟩ (.slice B n d)) q A nb cb Q lo n:=by
 have h1:=h.l1;have h2:=h.l2;have h3:=h.l3;obtain⟨A1,c1,x1,g1,_,_⟩:=h.gu.ex;have hf:=fr2 w5 Q (.int .i64 n) (.slice B n d);exact⟨(h.cu.keep hb).keepF hf (by omega),(h.fr.trans (Fr.of_below hb)).past hf (by omega),GU.set (g1.keep hb) ho h3,(h.d.keep hb).keepF hf (.inl (by omega)),h1,h2,h3⟩
def dgQ (w:World) (q:Nat) (A:Option Addr) (nb cb:Nat) (e:Ending) (w':World):Prop:=
 ∃(sz:Int) (B:Option Addr) (m d:Nat) (x:Nat->Int),e=.returned (.agg #[.int .i64 sz,.slice B m d])/\1<=m/\m<=7/\Own w' w.heap.size w'.heap.size 3 1 B m d (fun j=> .int .i64 (x j))/\Dr w q A nb cb w'
theorem dgQ.fin {B:Option Addr} {d:Nat} {x:Nat->Int} (hn1:1<=n) (hn7:n<=7) (h:DS w wr q A nb cb Q lo n) (ho:Own wr lo wr.heap.size 3 1 B n d (fun j=> .int .i64 (x j))):dgQ w q A nb cb (.returned (.agg #[.int .i64 n,.slice B n d])) ((wr.setCell ⟨w.heap.size,0,none⟩ (.int .i64 n)).setCell ⟨w.heap.size,1,none⟩ (.slice B n d)):=by
 have h1:=h.l1;have h2:=h.l2;have hf:=fr2 wr w.heap.size (.int .i64 n) (.slice B n d);exact⟨n,B,n,d,x,rfl,hn1,hn7,(ho.keep hf (.inr (by omega))).mono (by omega) hf.size,h.cu.keepF hf (by omega),h.fr.past hf nr_⟩
set_option maxRecDepth 100000 in
theorem l2Random_s {k:Nat} (hc:Cu w q A nb cb) (hn1:1<=n) (hn7:n<=7):
 Calls Tryz.prog 149 #[.pointer (some ⟨q,0,none⟩),.int .i64 n,.int .i64 k] w (dgQ w q A nb cb):=by
 obtain⟨W,hW⟩: ∃W,W=(w.alloc (Obj.cells #[.int .i64 0,.slice none 0 0] 26)):=⟨_,rfl⟩;have hB:Below w.heap.size w W:=by rw[hW];exact br_.alloc nr_ _
 have hD:GC W w.heap.size 0 none 0 0:=by rw[hW];exact GC.new _ _ _ _ _
 have hsW:w.heap.size<W.heap.size:=hD.lt;obtain⟨W2,hmk,hO2,hb2⟩:=made_own W n (by omega);have hs2:W.heap.size<W2.heap.size:=by
  obtain⟨g',e,_,_,hlt,_⟩:=hO2.at_ (by omega);simp only[Option.some.injEq,Addr.mk.injEq,and_true] at e;omega
 obtain⟨W3,hW3⟩: ∃W3,W3=W2.alloc (Obj.cells #[.int .i64 n,.slice (some ⟨W.heap.size,0,none⟩) n n] 26):=⟨_,rfl⟩;have hb3:Below W.heap.size W W3:=by rw[hW3];exact hb2.alloc hb2.size _
 have hB3:Below w.heap.size w W3:=hB.trans (hb3.mono (Nat.le_of_lt hsW));have HS:Hid (DS w W3 q A nb cb W2.heap.size W.heap.size n):=by
  refine⟨hc.keep hB3,Fr.of_below hB3,?_,hD.keep hb3,hc.lt,hsW,Nat.le_of_lt hs2⟩;rw[hW3];refine⟨some ⟨W.heap.size,0,none⟩,n,fun _=>0,GC.new _ _ _ _ _,(hO2.alloc _).mono nr_ (by simp;omega),fun e=> ?_⟩;simp only[Option.some.injEq,Addr.mk.injEq,and_true] at e;omega
 have HW:=hh_ hW;have HW3:=hh_ hW3;have hl1:=hc.lt;clear hW hW3 hB hD hO2 hb2 hb3 hB3 hc;go_enter Tryz.func149,Tryz.ntmps149;go_wp2_with fail
 rw[<-HW.out,hmk];clear HW;go_simp;go_wp2;rw[<-HW3.out];clear HW3 hmk;go_loopw [8] (fun iv wr=> ∃v:Nat,v<=n/\iv=.int .i64 v/\Hid (DS w wr q A nb cb W2.heap.size W.heap.size n)) (fun iv _=>n-(intOf iv).toNat);case atStart=>exact⟨0,Nat.zero_le _,rfl,HS⟩
 case round=>
  clear HS;obtain⟨v,hv,rfl,HSr⟩:=hrel;by_cases hvn:v<n
  ·have i1:(v:Int)<n:=by omega
   go_wp2;go_loopw [9] (fun iv wz=> ∃u:Nat,v<u/\u<=n/\iv=.int .i64 u/\Hid (DS w wz q A nb cb W2.heap.size W.heap.size n)) (fun iv _=>n-(intOf iv).toNat);case atStart=>exact⟨v+1,by omega,by omega,by go_num,HSr⟩
   case round=>
    clear HSr;obtain⟨u,hvu,hu,rfl,HSz⟩:=hrel;by_cases hun:u<n
    ·have i2:(u:Int)<n:=by omega
     have KB:=hh_ (l1Below_s (k:=10) HSz.cu (by omega) (by omega));go_wp2_with fail
     refine KB.mono ?_;rintro e w4 ⟨x,rfl,hx,hd⟩;have HS4:=hh_ (HSz.draw hd);obtain⟨A1,c1,x1,hg1,ho1,hne⟩:=HS4.gu.ex;have HG1:=hh_ hg1;have hz1:W2.heap.size<w4.heap.size:=hg1.lt;have e0:=hg1.c0;have e1:=hg1.c1;have KA:Hid (Calls Tryz.prog 91 #[.agg #[.int .i64 n,.slice A1 n c1],.int .i64 v,.int .i64 u] w4 _):=AddEdge_s (n:Int) A1 n c1 x1 v u w4 w4.heap.size ho1.rd nr_ (by omega);clear hg1 ho1 hne hd KB HSz;by_cases hxk:x<k
     ·have i3:(x:Int)<k:=by omega
      go_wp2_with ((go_at_call 91;(with_reducible refine KA.out.mono ?_);rintro e w5 ⟨A5,c5,rfl,hO5,hb5⟩;have hn5:=HG1.out.keep hb5;have n0:=hn5.c0;have n1:=hn5.c1;have n2:=hn5.f0;have n3:=hn5.f1))
      have HS6:Hid (DS w ((w5.setCell ⟨W2.heap.size,0,none⟩ (.int .i64 n)).setCell ⟨W2.heap.size,1,none⟩ (.slice A5 n c5)) q A nb cb W2.heap.size W.heap.size n):=HS4.set hb5 (hO5.mono (by omega) nr_);clear hO5 hb5 hn5 n0 n1 n2 n3;go_roundw;case rel=>exact⟨u+1,by omega,by omega,by go_num,HS6⟩
      case measure=>simp[intOf]<;>omega
     ·have i3:(k:Int)<=x:=by omega
      go_wp2;go_roundw;case rel=>exact⟨u+1,by omega,by omega,by go_num,HS4⟩
      case measure=>simp[intOf]<;>omega
    ·obtain rfl:u=n:=by omega
     have i2:(u:Int)<=u:=Int.le_refl _;go_wp2;go_roundw;case rel=>exact⟨v+1,by omega,by go_num,HSz⟩
     case measure=>simp[intOf]<;>omega
  ·obtain rfl:v=n:=by omega
   have i1:(v:Int)<=v:=Int.le_refl _;have d0:=HSr.d.c0;have d1:=HSr.d.c1;have d2:=HSr.d.f0;have d3:=HSr.d.f1;obtain⟨A1,c1,x1,hg1,ho1,hne⟩:=HSr.gu.ex;have e0:=hg1.c0;have e1:=hg1.c1;have HF:=hh_ (dgQ.fin hn1 hn7 HSr.out ho1);clear hg1 ho1 hne;go_wp2;exact bodyPost_ret (v:=.agg #[.int .i64 v,.slice A1 v c1]) (by simp[results,Tryz.results149,go_sem, *]) rfl HF.out
end
set_option maxHeartbeats 6400000
theorem NamedGraph_s {t:ByteArray} {n:Nat} (w:World) (ht:nmOk t) (hn1:1<=n) (hn7:n<=7):
 Calls Tryz.prog 148 #[.string t,.int .i64 n] w fun e w'=> ∃(A:Option Addr) (c:Nat) (x:Nat->Int),e=.returned (.tuple #[.agg #[.int .i64 n,.slice A n c],.bool true])/\Own w' w.heap.size w'.heap.size 3 1 A n c (fun j=> .int .i64 (x j))/\Below w.heap.size w w':=by
 rcases ht with h|h|h|h|h
 ·exact NamedGraph_path w h hn1 hn7
 ·exact NamedGraph_cycle w h hn1 hn7
 ·exact NamedGraph_complete w h hn1 hn7
 ·exact NamedGraph_star w h hn1 hn7
 ·exact NamedGraph_wheel w h hn1 hn7
section
variable {w wr w2 w5:World} {q nb cb Q lo n:Nat} {A:Option Addr}
structure D0 (w wr:World) (q:Nat) (A:Option Addr) (nb cb:Nat):Prop where
 cu:Cu wr q A nb cb
 fr:Fr q (q+1) w wr
 d:GC wr w.heap.size 0 none 0 0
 l1:q<w.heap.size
theorem D0.new (h:Cu w q A nb cb):D0 w (w.alloc (Obj.cells #[.int .i64 0,.slice none 0 0] 26)) q A nb cb:=
 have hb:Below w.heap.size w (w.alloc (Obj.cells #[.int .i64 0,.slice none 0 0] 26)):=br_.alloc nr_ _
 ⟨h.keep hb,Fr.of_below hb,GC.new _ _ _ _ _,h.lt⟩
theorem D0.keep (h:D0 w wr q A nb cb) (hb:Below wr.heap.size wr w2):D0 w w2 q A nb cb:=⟨h.cu.keep hb,h.fr.trans (Fr.of_below hb),h.d.keep hb,h.l1⟩
theorem D0.draw (h:D0 w wr q A nb cb) (hd:Dr wr q A nb cb w2):D0 w w2 q A nb cb:=⟨hd.cu,h.fr.trans hd.fr,h.d.keepF hd.fr (.inr (by have:=h.l1;omega)),h.l1⟩
theorem D0.lt (h:D0 w wr q A nb cb):w.heap.size<wr.heap.size:=h.d.lt
theorem D0.ds (h:D0 w wr q A nb cb) (hg:GU wr Q lo n) (h2:w.heap.size<lo) (h3:lo<=Q):DS w wr q A nb cb Q lo n:=⟨h.cu,h.fr,hg,h.d,h.l1,h2,h3⟩
theorem dgQ.fin0 {sz:Int} {B:Option Addr} {m d:Nat} {x:Nat->Int} (hn1:1<=m) (hn7:m<=7) (hc:Cu wr q A nb cb) (hfr:Fr q (q+1) w wr) (h1:q<w.heap.size) (ho:Own wr lo wr.heap.size 3 1 B m d (fun j=> .int .i64 (x j))) (hl:w.heap.size<lo):dgQ w q A nb cb (.returned (.agg #[.int .i64 sz,.slice B m d])) ((wr.setCell ⟨w.heap.size,0,none⟩ (.int .i64 sz)).setCell ⟨w.heap.size,1,none⟩ (.slice B m d)):=by
 have hf:=fr2 wr w.heap.size (.int .i64 sz) (.slice B m d);exact⟨sz,B,m,d,x,rfl,hn1,hn7,(ho.keep hf (.inr (by omega))).mono (by omega) hf.size,hc.keepF hf (by omega),hfr.past hf nr_⟩
set_option maxRecDepth 100000 in
theorem l2Draw_s (hc:Cu w q A nb cb):Calls Tryz.prog 86 #[.pointer (some ⟨q,0,none⟩)] w (dgQ w q A nb cb):=by
 obtain⟨W,hW⟩: ∃W,W=(w.alloc (Obj.cells #[.int .i64 0,.slice none 0 0] 26)):=⟨_,rfl⟩;have HD:Hid (D0 w W q A nb cb):=by rw[hW];exact D0.new hc
 have HW:=hh_ hW;have KB:=hh_ (l1Below_s (k:=6) HD.cu (by omega) (by omega));clear hW hc;go_enter Tryz.func86,Tryz.ntmps86;go_wp2_with fail
 rw[<-HW.out];clear HW;refine KB.mono ?_;rintro e w1 ⟨v,rfl,hv,hd⟩;replace HD:=hh_ (HD.draw hd);clear hd KB;have KB:=hh_ (l1Below_s (k:=4) HD.cu (by omega) (by omega));go_wp2_with fail
 refine KB.mono ?_;rintro e w2 ⟨s,rfl,hs,hd⟩;replace HD:=hh_ (HD.draw hd);clear hd KB;obtain⟨n,hn⟩: ∃n,n=v+1:=⟨_,rfl⟩;have hv2:(1:Int)+(v:Int)=n:=by omega
 have hn1:1<=n:=by omega
 have hn6:n<=6:=by omega
 rw[hv2];clear hv2 hn hv;by_cases h0:s=0
 ·have i0:((s:Int)==0)=true:=by simp;omega
  obtain⟨W3,hW3⟩: ∃W3,W3=(w2.alloc (Obj.cells #[.string ⟨#[112,97,116,104]⟩,.string ⟨#[99,121,99,108,101]⟩,.string ⟨#[99,111,109,112,108,101,116,101]⟩,.string ⟨#[115,116,97,114]⟩,.string ⟨#[119,104,101,101,108]⟩] 9)):=⟨_,rfl⟩;have hb3:Below w2.heap.size w2 W3:=by rw[hW3];exact br_.alloc nr_ _
  have hl3:w2.heap.size<W3.heap.size:=by rw[hW3];simp
  have HD3:=hh_ (HD.keep hb3);have HL:Hid (LT W3 w2.heap.size 5 nmOk):=by
   refine⟨fun j hj=> ?_⟩;rw[hW3];have hj5:j=0\/j=1\/j=2\/j=3\/j=4:=by omega
   rcases hj5 with rfl|rfl|rfl|rfl|rfl
   ·exact⟨⟨#[112,97,116,104]⟩,by exact .inl (by decide+kernel),by simp[go_sem]⟩
   ·exact⟨⟨#[99,121,99,108,101]⟩,by exact .inr (.inl (by decide+kernel)),by simp[go_sem]⟩
   ·exact⟨⟨#[99,111,109,112,108,101,116,101]⟩,by exact .inr (.inr (.inl (by decide+kernel))),by simp[go_sem]⟩
   ·exact⟨⟨#[115,116,97,114]⟩,by exact .inr (.inr (.inr (.inl (by decide+kernel)))),by simp[go_sem]⟩
   ·exact⟨⟨#[119,104,101,101,108]⟩,by exact .inr (.inr (.inr (.inr ((by decide+kernel))))),by simp[go_sem]⟩
  have hqw:q<w2.heap.size:=by have:=HD.l1;have:=HD.lt;omega
  have KP:=hh_ (l1Pick_s (k:=5) HD3.cu HL.out hqw hl3 (by omega) (by omega));have HW3:=hh_ hW3;clear hW3 hb3 h0 hs HD HL;go_wp2_with fail
  rw[<-HW3.out];clear HW3;refine KP.mono ?_;rintro e w4 ⟨t,rfl,ht,hd⟩;have HD4:=hh_ (HD3.draw hd);have hw4:=HD4.lt;have KG:=hh_ (NamedGraph_s w4 ht hn1 (by omega));clear hd ht KP HD3;go_wp2_with fail
  refine KG.mono ?_;rintro e w5 ⟨A1,c1,x1,rfl,ho,hb⟩;have HD5:=hh_ (HD4.keep hb);have hw5:=hb.size;obtain⟨W6,hW6⟩: ∃W6,W6=(w5.alloc (Obj.cells #[.int .i64 n,.slice A1 n c1] 26)):=⟨_,rfl⟩;have hb6:Below w5.heap.size w5 W6:=by rw[hW6];exact br_.alloc nr_ _
  have hg6:GU W6 w5.heap.size (w.heap.size+1) n:=by
   rw[hW6];refine⟨A1,c1,x1,GC.new _ _ _ _ _,(ho.alloc _).mono (by omega) (by simp),fun e=> ?_⟩;rcases ho.at_block with h|⟨g,h,_,hlt⟩
   ·rw[h] at e;cases e
   ·rw[h] at e;simp only[Option.some.injEq,Addr.mk.injEq,and_true] at e;omega
  have HS:=hh_ ((HD5.keep hb6).ds hg6 (Nat.lt_succ_self _) (by omega));have KB:=hh_ (l1Below_s HS.cu (show 0<n from hn1) (by omega));have HW6:=hh_ hW6;clear hW6 hb6 hg6 ho hb KG HD4 HD5;go_wp2_with fail
  rw[<-HW6.out];clear HW6;refine KB.mono ?_;rintro e w7 ⟨a,rfl,ha,hd⟩;replace HS:=hh_ (HS.draw hd);clear hd KB;have KB:=hh_ (l1Below_s HS.cu (show 0<n from hn1) (by omega));go_wp2_with fail
  refine KB.mono ?_;rintro e w8 ⟨b,rfl,hb,hd⟩;replace HS:=hh_ (HS.draw hd);clear hd KB;have KB:=hh_ (l1Once_s (k:=2) HS.cu (by omega) (by omega));go_wp2_with fail
  refine KB.mono ?_;rintro e w9 ⟨y,rfl,hd⟩;replace HS:=hh_ (HS.draw hd);clear hd KB;obtain⟨A2,c2,x2,hg1,ho1,hne⟩:=HS.gu.ex;have e0:=hg1.c0;have e1:=hg1.c1;have HG1:=hh_ hg1;have hz1:w5.heap.size<w9.heap.size:=hg1.lt;cases y
  ·have HF:=hh_ (dgQ.fin hn1 (by omega) HS.out ho1);have d0:=HS.d.c0;have d1:=HS.d.c1;have d2:=HS.d.f0;have d3:=HS.d.f1;clear hg1 ho1 hne;go_wp2;exact bodyPost_ret (v:=.agg #[.int .i64 n,.slice A2 n c2]) (by simp[results,Tryz.results86,go_sem, *]) rfl HF.out
  ·have KA:Hid (Calls Tryz.prog 91 #[.agg #[.int .i64 n,.slice A2 n c2],.int .i64 a,.int .i64 b] w9 _):=AddEdge_s (n:Int) A2 n c2 x2 a b w9 w9.heap.size ho1.rd nr_ (by omega);clear hg1 ho1 hne;go_wp2_with fail
   refine KA.mono ?_;rintro e v5 ⟨A5,c5,rfl,hO5,hb5⟩;have hn5:=HG1.keep hb5;have n0:=hn5.c0;have n1:=hn5.c1;have n2:=hn5.f0;have n3:=hn5.f1;obtain⟨V6,hV6⟩: ∃V6,V6=((v5.setCell ⟨w5.heap.size,0,none⟩ (.int .i64 n)).setCell ⟨w5.heap.size,1,none⟩ (.slice A5 n c5)):=⟨_,rfl⟩;have HS6:Hid (DS w V6 q A nb cb w5.heap.size (w.heap.size+1) n):=by rw[hV6];exact HS.set hb5 (hO5.mono (by omega) nr_)
   have HG6:Hid (GC V6 w5.heap.size n A5 n c5):=by rw[hV6];exact hn5.set
   have ho6:Own V6 (w.heap.size+1) V6.heap.size 3 1 A5 n c5 (fun j=> .int .i64 (aeX (n:Int) n x2 a b j)):=by
    rw[hV6];exact(hO5.keep (fr2 v5 w5.heap.size (.int .i64 n) (.slice A5 n c5)) (.inr (by omega))).mono (by omega) (fr2 v5 w5.heap.size (.int .i64 n) (.slice A5 n c5)).size
   have HF:=hh_ (dgQ.fin hn1 (by omega) HS6.out ho6);have hd5:=HS.d.keep hb5;have d0:=hd5.c0;have d1:=hd5.c1;have d2:=hd5.f0;have d3:=hd5.f1;have j1:(w.heap.size=w5.heap.size)=False:=by simp;omega
   have j2:(w5.heap.size=w.heap.size)=False:=by simp;omega
   have HV6:=hh_ hV6;clear hO5 hb5 hn5 ho6 hV6 KA e0 e1 hd5;go_wp2;rw[<-HV6.out];have r0:=HS6.d.c0;have r1:=HS6.d.c1;exact bodyPost_ret (v:=.agg #[.int .i64 n,.slice A5 n c5]) (by simp[results,Tryz.results86,go_sem, *]) rfl HF.out
 ·have i0:((s:Int)==0)=false:=by simp;omega
  by_cases h1:s=1
  ·have i1:((s:Int)==1)=true:=by simp;omega
   have KR:=hh_ (l2Random_s (n:=n) (k:=7) HD.cu hn1 (by omega));have hq2:=HD.lt;clear h0 h1 hs;go_wp2_with fail
   refine KR.mono ?_;rintro e w3 ⟨sz,B,m,d,x,rfl,hm1,hm7,ho,hd⟩;have HD3:=hh_ (HD.draw hd);have HF:=hh_ (dgQ.fin0 (sz:=sz) hm1 hm7 HD3.cu HD3.fr HD3.l1 ho hq2);have d0:=HD3.d.c0;have d1:=HD3.d.c1;have d2:=HD3.d.f0;have d3:=HD3.d.f1;clear ho hd KR HD;go_wp2;exact bodyPost_ret (v:=.agg #[.int .i64 sz,.slice B m d]) (by simp[results,Tryz.results86,go_sem, *]) rfl HF.out
  ·have i1:((s:Int)==1)=false:=by simp;omega
   have KR:=hh_ (l2Random_s (n:=n) (k:=4) HD.cu hn1 (by omega));have hq2:=HD.lt;clear h0 h1 hs;go_wp2_with fail
   refine KR.mono ?_;rintro e w3 ⟨sz,B,m,d,x,rfl,hm1,hm7,ho,hd⟩;have HD3:=hh_ (HD.draw hd);have HF:=hh_ (dgQ.fin0 (sz:=sz) hm1 hm7 HD3.cu HD3.fr HD3.l1 ho hq2);have d0:=HD3.d.c0;have d1:=HD3.d.c1;have d2:=HD3.d.f0;have d3:=HD3.d.f1;clear ho hd KR HD;go_wp2;exact bodyPost_ret (v:=.agg #[.int .i64 sz,.slice B m d]) (by simp[results,Tryz.results86,go_sem, *]) rfl HF.out
set_option maxRecDepth 100000 in
theorem l2Any_s (hc:Cu w q A nb cb):Calls Tryz.prog 34 #[.pointer (some ⟨q,0,none⟩)] w (dgQ w q A nb cb):=by
 obtain⟨W,hW⟩: ∃W,W=(w.alloc (Obj.cells #[.int .i64 0,.slice none 0 0] 26)):=⟨_,rfl⟩;have HD:Hid (D0 w W q A nb cb):=by rw[hW];exact D0.new hc
 have HW:=hh_ hW;have KD:=hh_ (l2Draw_s HD.cu);have hlW:=HD.lt;clear hW hc;go_enter Tryz.func34,Tryz.ntmps34;go_wp2_with fail
 rw[<-HW.out];clear HW;refine KD.mono ?_;rintro e w1 ⟨sz,B,m,d,x,rfl,hm1,hm7,ho,hd⟩;replace HD:=hh_ (HD.draw hd);have hl1:=hd.fr.size;clear hd KD;obtain⟨W2,hW2⟩: ∃W2,W2=(w1.alloc (Obj.cells #[.int .i64 sz,.slice B m d] 26)):=⟨_,rfl⟩;have hb2:Below w1.heap.size w1 W2:=by rw[hW2];exact br_.alloc nr_ _
 have hg2:GC W2 w1.heap.size sz B m d:=by rw[hW2];exact GC.new _ _ _ _ _
 have ho2:Own W2 W.heap.size w1.heap.size 3 1 B m d (fun j=> .int .i64 (x j)):=by rw[hW2];exact ho.alloc _
 replace HD:=hh_ (HD.keep hb2);have KB:=hh_ (l1Below_s (k:=18) HD.cu (by omega) (by omega));have HG:=hh_ hg2;have HO:=hh_ ho2;have HW2:=hh_ hW2;clear hW2 hb2 hg2 ho2 ho;go_wp2_with fail
 rw[<-HW2.out];clear HW2;refine KB.mono ?_;rintro e w3 ⟨s,rfl,hs,hd⟩;have hqw:q+1<=w1.heap.size:=by have:=HD.l1;omega
 have hql:=HD.l1;replace HD:=hh_ (HD.draw hd);replace HG:=hh_ (HG.keepF hd.fr (.inr hqw));replace HO:=hh_ (HO.keep hd.fr (.inr (by omega)));have hl3:w1.heap.size<w3.heap.size:=HG.lt;clear hd KB hqw;have j1:(w.heap.size=w1.heap.size)=False:=by simp;omega
 have j2:(w1.heap.size=w.heap.size)=False:=by simp;omega
 by_cases h0:s=0
 ·have i0:((s:Int)==0)=true:=by simp;omega
  obtain⟨W4,hW4⟩: ∃W4,W4=(w3.alloc (Obj.cells #[.int .i64 0,.int .i64 (-1),.int .i64 8,.int .i64 3] 3)):=⟨_,rfl⟩;have hb4:Below w3.heap.size w3 W4:=by rw[hW4];exact br_.alloc nr_ _
  have hl4:w3.heap.size<W4.heap.size:=by rw[hW4];simp
  have hl:LC W4 w3.heap.size 4:=by
   refine⟨fun j hj=> ?_⟩;rw[hW4];have hj5:j=0\/j=1\/j=2\/j=3:=by omega
   rcases hj5 with rfl|rfl|rfl|rfl
   ·exact⟨0,by simp[go_sem]⟩
   ·exact⟨-1,by simp[go_sem]⟩
   ·exact⟨8,by simp[go_sem]⟩
   ·exact⟨3,by simp[go_sem]⟩
  have HD4:=hh_ (HD.keep hb4);have HG4:=hh_ (HG.keep hb4);have HO4:=hh_ (HO.keepB hb4 (Nat.le_of_lt hl3));have KP:=hh_ (l1PickInt_s (k:=4) HD4.cu hl (by omega) hl4 (by omega) (by omega));have e0:=HG.c0;have e1:=HG.c1;have HW4:=hh_ hW4;clear hW4 hb4 hl h0 hs HD HG HO;go_wp2_with fail
  rw[<-HW4.out];clear HW4 e0 e1;refine KP.mono ?_;rintro e w5 ⟨z,rfl,hd⟩;have HD5:=hh_ (HD4.draw hd);have HG5:=hh_ (HG4.keepF hd.fr (.inr (by omega)));have HO5:=hh_ (HO4.keep hd.fr (.inr (by omega)));have hl5:w1.heap.size<w5.heap.size:=HG5.lt;have e0:=HG5.c0;have e1:=HG5.c1;have e2:=HG5.f0;have e3:=HG5.f1;have d0:=HD5.d.c0;have d1:=HD5.d.c1;have d2:=HD5.d.f0;have d3:=HD5.d.f1;have hf:=(Fr.refl w1.heap.size (w1.heap.size+1) w5).setCell (p:=⟨w1.heap.size,0,none⟩) nr_ (Nat.lt_succ_self _) (.int .i64 z);obtain⟨V,hV⟩: ∃V,V=w5.setCell ⟨w1.heap.size,0,none⟩ (.int .i64 z):=⟨_,rfl⟩;rw[<-hV] at hf;have HF:=hh_ (dgQ.fin0 (sz:=z) hm1 hm7 (HD5.cu.keepF hf (by omega)) (HD5.fr.past hf (by omega)) HD5.l1 ((HO5.keep hf (.inl nr_)).mono nr_ (by have:=hf.size;omega)) hlW);have r0:V.cell? ⟨w.heap.size,0,none⟩=some (.int .i64 0):=(hf.cell (p:=⟨w.heap.size,0,none⟩) (by show w.heap.size<_;omega) (.inl (by show w.heap.size<_;omega))).trans d0
  have r1:V.cell? ⟨w.heap.size,1,none⟩=some (.slice none 0 0):=(hf.cell (p:=⟨w.heap.size,1,none⟩) (by show w.heap.size<_;omega) (.inl (by show w.heap.size<_;omega))).trans d1;have HV:=hh_ hV;clear hd hf hV KP HD4 HG4 HO4;go_wp2;rw[<-HV.out];exact bodyPost_ret (v:=.agg #[.int .i64 z,.slice B m d]) (by simp[results,Tryz.results34,go_sem,r0,r1]) rfl HF.out
 ·have i0:((s:Int)==0)=false:=by simp;omega
  by_cases h1:s=1
  ·have i1:((s:Int)==1)=true:=by simp;omega
   obtain⟨g,eB,hg1,hg2,_,hcl,hfr⟩:=HO.at_ (by omega);subst eB;obtain⟨W4,hW4⟩: ∃W4,W4=(w3.alloc (Obj.cells #[.int .i64 (-1),.int .i64 1,.int .i64 2,.int .i64 128,.int .i64 9223372036854775807] 3)).drew:=⟨_,rfl⟩;have hb4:Below w3.heap.size w3 W4:=by rw[hW4];exact(br_.alloc nr_ _).drew
   have hl4:w3.heap.size<W4.heap.size:=by rw[hW4];show _<(w3.alloc _).heap.size;simp
   have hl:LC W4 w3.heap.size 5:=by
    refine⟨fun j hj=> ?_⟩;rw[hW4];have hj5:j=0\/j=1\/j=2\/j=3\/j=4:=by omega
    rcases hj5 with rfl|rfl|rfl|rfl|rfl
    ·exact⟨-1,by simp[go_sem]⟩
    ·exact⟨1,by simp[go_sem]⟩
    ·exact⟨2,by simp[go_sem]⟩
    ·exact⟨128,by simp[go_sem]⟩
    ·exact⟨9223372036854775807,by simp[go_sem]⟩
   have HD4:=hh_ (HD.keep hb4);have HG4:=hh_ (HG.keep hb4);have HO4:=hh_ (HO.keepB hb4 (Nat.le_of_lt hl3));have KP:=hh_ (l1PickInt_s (k:=5) HD4.cu hl (by omega) hl4 (by omega) (by omega));have e1:=HG.c1;have i2:(0:Int)<m:=by omega
   rw[hW4] at KP;have HW4:=hh_ hW4;clear hW4 hb4 hl h0 h1 hs hcl hfr HD;go_wp2;go_region_with ((go_at_call 87;refine KP.mono ?_;rintro e w5 ⟨z,rfl,hd⟩;rw[<-HW4.out] at hd;have HG5:=HG4.keepF hd.fr (.inr (by omega));have HO5:=HO4.keep hd.fr (.inr (by omega));have k1:=HG5.c1;have k2:w5.cell? ⟨g,0,none⟩=some (.int .i64 (x 0)):=(by obtain⟨g',e,_,_,_,h,_⟩:=HO5.at_ (by omega);simp only[Option.some.injEq,Addr.mk.injEq,and_true] at e;subst e;exact h 0 (by omega));have k3:w5.frozen? ⟨g,0,none⟩=false:=(by obtain⟨g',e,_,_,_,_,h⟩:=HO5.at_ (by omega);simp only[Option.some.injEq,Addr.mk.injEq,and_true] at e;subst e;exact h 0)))
   all_goals
    have HD5:=hh_ (HD4.draw hd);have hlg:g<w5.heap.size:=by have:=hd.fr.size;omega
    have hf:=(Fr.refl g (g+1) w5).setCell (p:=⟨g,0,none⟩) nr_ (Nat.lt_succ_self _) (.int .i64 z);have HOV:Own (w5.setCell ⟨g,0,none⟩ (.int .i64 z)) W.heap.size w1.heap.size 3 1 (some ⟨g,0,none⟩) m d (fun j=> .int .i64 (if j=0 then z else x j)):=(HO5.set_ 0 (.int .i64 z)).congr fun j _=>by by_cases h:j=0<;>simp[h]
    have HF:=hh_ (dgQ.fin0 (sz:=sz) hm1 hm7 (HD5.cu.keepF hf (by omega)) (HD5.fr.past hf (by omega)) HD5.l1 (HOV.mono nr_ (by have:=hf.size;have:=hd.fr.size;omega)) hlW);have HGV:=HG5.keepF hf (.inr (by omega));have HDV:=HD5.d.keepF hf (.inl (by omega));have v0:=HGV.c0;have v1:=HGV.c1;have r0:=HDV.c0;have r1:=HDV.c1;have r2:=HDV.f0;have r3:=HDV.f1;obtain⟨V,hV⟩: ∃V,V=w5.setCell ⟨g,0,none⟩ (.int .i64 z):=⟨_,rfl⟩;rw[<-hV] at HF v0 v1 r0 r1 r2 r3 ⊢;rename∀(a:Act) (w':World),_->_=>hK
    refine hK _ _ ?_;clear hf HOV HD5 HG5 HO5 hd KP HD4 HO4 HG4 hV HGV HDV;go_wp2;exact bodyPost_ret (v:=.agg #[.int .i64 sz,.slice (some ⟨g,0,none⟩) m d]) (by simp[results,Tryz.results34,go_sem,r0,r1]) rfl HF.out
  ·have i1:((s:Int)==1)=false:=by simp;omega
   have HF:=hh_ (dgQ.fin0 (sz:=sz) hm1 hm7 HD.cu HD.fr HD.l1 (HO.mono nr_ (Nat.le_of_lt hl3)) hlW);have e0:=HG.c0;have e1:=HG.c1;have d0:=HD.d.c0;have d1:=HD.d.c1;have d2:=HD.d.f0;have d3:=HD.d.f1;clear h0 h1 hs;go_wp2;exact bodyPost_ret (v:=.agg #[.int .i64 sz,.slice B m d]) (by simp[results,Tryz.results34,go_sem, *]) rfl HF.out
end
end Go.Proofs.YtfabbohijhjpcaaGreatDoor
