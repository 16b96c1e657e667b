/- Lemmas. -/
import Derived.Test.YtfabbohijhjpcaaGreatDoorRbDrxE
/-
-/
namespace Go.Proofs.YtfabbohijhjpcaaGreatDoor
open Go.RowKit
structure SG (w W:World) (B:Option Addr) (m d:Nat) (x:Nat->Int):Prop where
 h7:m<=7
 o1:Own W w.heap.size W.heap.size 3 1 B m d (fun j=> .int .i64 (x j))
 b:Below w.heap.size w W
theorem SG.fin {w U W':World} {B:Option Addr} {m d l h k:Nat} {x:Nat->Int} (hB:Below w.heap.size w U) (F:Fr w.heap.size (w.heap.size+k) U W') (hm:m<=7) (o:Own U l h 3 1 B m d (fun j=> .int .i64 (x j))) (e1:w.heap.size+k<=l) (e3:h<=U.heap.size):SG w W' B m d x:=
 ⟨hm,(o.keep F (.inr e1)).mono (by omega) (Nat.le_trans e3 F.size),hB.trans (F.below nr_ hB.size)⟩
theorem SG.alloc {w W:World} {B:Option Addr} {m d:Nat} {x:Nat->Int} (h:SG w W B m d x) (o:Obj):SG w (W.alloc o) B m d x:=
 ⟨h.h7,(h.o1.alloc o).mono nr_ (by simp),h.b.alloc h.b.size _⟩
theorem SG.drewN {w W:World} {B:Option Addr} {m d:Nat} {x:Nat->Int} (h:SG w W B m d x) (k:Nat):SG w (W.drewN k) B m d x:=⟨h.h7,h.o1,⟨h.b.os,h.b.tape,h.b.output,h.b.size,h.b.block⟩⟩
set_option maxHeartbeats 3200000
set_option maxRecDepth 100000 in
theorem l1New_s {n c:Nat} {A:Option Addr} {w:World} (hb:By w w.heap.size A n c) (hn:n<=1048576):
 Calls Tryz.prog 33 #[.slice A n c] w fun e w'=> ∃q,e=.returned (.pointer (some ⟨q,0,none⟩))/\w.heap.size<=q/\Cu w' q A n c/\Below w.heap.size w w':=by
 have HBy:=hh_ hb;have Hc:Hid (∀j,j<n-> ∃b o,∃u:Nat,A=some ⟨b,o,none⟩/\u<256/\w.cell? ⟨b,o+j,none⟩=some (.int .u8 u)):=fun j hj=>by
  obtain⟨b,o,e,_,h⟩:=hb.2 (by omega);obtain⟨u,hu,pu⟩:=h j hj;exact⟨b,o,u,e,hu,pu⟩
 have fin: ∀z:Int,Hid (∃q,Ending.returned (Value.pointer (some ⟨w.heap.size,0,none⟩))=.returned (.pointer (some ⟨q,0,none⟩))/\w.heap.size<=q/\Cu (w.alloc (Obj.cells #[.slice A n c,.int .i64 0,.int .i64 z] 89)) q A n c/\Below w.heap.size w (w.alloc (Obj.cells #[.slice A n c,.int .i64 0,.int .i64 z] 89))):=fun z=>
  ⟨w.heap.size,rfl,nr_,⟨⟨0,z,Nat.zero_le _,by simp[go_sem],by simp[go_sem],by simp[go_sem]⟩,by simp[go_sem],by simp[go_sem],hb.keep (br_.alloc nr_ _) nr_,hn⟩,br_.alloc nr_ _⟩
 have Hfin:=hh_ fin;clear hb fin;go_enter Tryz.func33,Tryz.ntmps33;go_wp2;go_loop [3,4] (fun h i=> ∃(k:Nat) (z:Int),k<=n/\i=.int .i64 k/\h=.int .i64 z) (fun _ i=>n-(intOf i).toNat);case atStart=>exact⟨0,_,Nat.zero_le _,rfl,rfl⟩
 case round=>
  obtain⟨k,z,hk,rfl,rfl⟩:=hrel;by_cases hkn:k<n
  ·have i1:(k:Int)<n:=by omega
   by_cases h4:k<4000
   ·have i2:(k:Int)<4000:=by omega
    obtain⟨b,o,u,rfl,hu,pu⟩:=Hc.out k hkn;go_wp2;go_round;case rel=>exact⟨k+1,_,by omega,by go_num,rfl⟩
    case measure=>simp[intOf]<;>omega
   ·have i2:(4000:Int)<=k:=by omega
    go_wp2;go_ret;exact(Hfin.out _).out
  ·have i1:(n:Int)<=k:=by omega
   go_wp2;go_ret;exact(Hfin.out _).out
set_option maxHeartbeats 6400000
section
variable {w:World} {n c:Nat} {A:Option Addr}
set_option maxRecDepth 100000 in
theorem DrawApplyEdits_s (hb:By w w.heap.size A n c) (hn:n<=1048576):
 Calls Tryz.prog 6 #[.slice A n c] w fun e w'=> ∃(s1:Int) (B1:Option Addr) (m1 d1:Nat) (x1:Nat->Int) (A3:Option Addr) (c3:Nat) (T:List (Bool×Int×Int)),e=.returned (.tuple #[.agg #[.int .i64 s1,.slice B1 m1 d1],.slice A3 T.length c3])/\SG w w' B1 m1 d1 x1/\T.length<=6/\Own w' w.heap.size w'.heap.size 48 3 A3 T.length c3 (edT T):=by
 obtain⟨W,hW⟩: ∃W,W=(w.alloc (Obj.cells #[.int .i64 0,.slice none 0 0] 26)):=⟨_,rfl⟩;have HB:Hid (Below w.heap.size w W):=by rw[hW];exact br_.alloc nr_ _
 have hlW:W.heap.size=w.heap.size+1:=by rw[hW];simp
 have HR0:Hid (GC W (w.heap.size) 0 none 0 0):=by rw[hW];constructor<;>simp[go_sem]
 have HW:=hh_ hW;have KB:=hh_ (l1New_s (hb.keep HB (by omega)) hn:Calls Tryz.prog 33 #[.slice A n c] W _);clear hW hb;go_enter Tryz.func6,Tryz.ntmps6;go_wp2_with fail
 rw[<-HW.out];clear HW;refine KB.mono ?_;rintro e w1 ⟨q,rfl,hq,hc,hb⟩;replace HR0:=hh_ (HR0.keep hb);have hl1:=hb.size;replace HB:=hh_ (HB.trans (hb.mono (by omega)));have HC:=hh_ hc;clear hb KB hc;have hql:=HC.lt;have KB:=hh_ (l2Any_s HC);go_wp2_with fail
 refine KB.mono ?_;rintro e w2 ⟨s1,B1,m1,d1,x1,rfl,_,h7m1,ho,hd⟩;replace HR0:=hh_ (HR0.keepF hd.fr (.inl (by omega)));have hlw2:=hd.fr.size;replace HB:=hh_ (HB.trans (hd.fr.below (by omega) (by omega)));replace HC:=hh_ hd.cu;have HO1:=hh_ ho;clear hd KB ho;obtain⟨U,hU⟩: ∃U,U=(w2.alloc (Obj.cells #[.int .i64 s1,.slice B1 m1 d1] 26)):=⟨_,rfl⟩;have hbU:Below w2.heap.size w2 U:=by rw[hU];exact br_.alloc nr_ _
 have hlU:U.heap.size=w2.heap.size+1:=by rw[hU];simp
 have HG1:Hid (GC U w2.heap.size s1 B1 m1 d1):=by rw[hU];exact GC.new _ _ _ _ _
 replace HR0:=hh_ (HR0.keep hbU);replace HB:=hh_ (HB.trans (hbU.mono (by omega)));replace HC:=hh_ (HC.keep hbU);replace HO1:=hh_ (HO1.keepB hbU nr_);have HU:=hh_ hU;have HQL:Hid (q+1<=w2.heap.size):=by show _<=_;omega
 have HQW:Hid (w.heap.size+1<=w2.heap.size):=by show _<=_;omega
 have hq3:w.heap.size+1<=q:=by omega
 have hlr:=HG1.lt;have KL0:=hh_ (l32Edits_s (sz:=s1) (B:=B1) (m:=m1) (d:=d1) (HC.keep br_.drew:Cu U.drew q A n c) HO1.drew (by omega) (by show w2.heap.size<=U.heap.size;omega) (by omega));have HS1:Hid (U.drew.cell? ⟨w2.heap.size,0,none⟩=some (.int .i64 s1)/\U.drew.cell? ⟨w2.heap.size,1,none⟩=some (.slice B1 m1 d1)):=⟨HG1.c0,HG1.c1⟩;clear hU hbU;go_wp2;rw[<-HU.out];clear HU;go_region_held3 (fun z=>z.cell? ⟨w2.heap.size,0,none⟩=some (.int .i64 s1)/\z.cell? ⟨w2.heap.size,1,none⟩=some (.slice B1 m1 d1))
  (first|exact HS1.out|assumption|exact z6|exact z7|fail)
  (first
    |((go_at_call 35;((with_reducible refine KL0.out.mono ?_);rintro e w6 ⟨A6,c6,T6,rfl,h6,ho6,hd6⟩;have HR6:=HR0.out.drew.keepF hd6.fr (.inl hq3);have HG6:=HG1.out.drew.keepF hd6.fr (.inr HQL.out);have y0:=HR6.c0;have y1:=HR6.c1;have y2:=HR6.f0;have y3:=HR6.f1;have z6:w6.cell? ⟨w2.heap.size,0,none⟩=some (.int .i64 s1)/\w6.cell? ⟨w2.heap.size,1,none⟩=some (.slice B1 m1 d1):=⟨HG6.c0,HG6.c1⟩;have HG7:=HG6.keepF (fr2 w6 w.heap.size (.int .i64 s1) (.slice B1 m1 d1)) (.inr HQW.out);have z7:((w6.setCell ⟨w.heap.size,0,none⟩ (.int .i64 s1)).setCell ⟨w.heap.size,1,none⟩ (.slice B1 m1 d1)).cell? ⟨w2.heap.size,0,none⟩=some (.int .i64 s1)/\((w6.setCell ⟨w.heap.size,0,none⟩ (.int .i64 s1)).setCell ⟨w.heap.size,1,none⟩ (.slice B1 m1 d1)).cell? ⟨w2.heap.size,1,none⟩=some (.slice B1 m1 d1):=⟨HG7.c0,HG7.c1⟩)))
    |fail)
 have F:=fr2 w6 w.heap.size (.int .i64 s1) (.slice B1 m1 d1);have hz6:U.heap.size<=w6.heap.size:=hd6.fr.size;have HF:=hh_ (SG.fin (HB.drew.trans (hd6.fr.below (by omega) HB.size)) F h7m1 (HO1.drew.keep hd6.fr (.inr (by omega))) (by omega) (by omega));have HI:=hh_ ((ho6.keep F (.inr (by show w.heap.size+1<=U.heap.size;omega))).mono (show w.heap.size<=U.drew.heap.size by show _<=U.heap.size;omega) F.size);clear F hd6 ho6 HR6 HG6 HG7 z6 z7 KL0 HS1;go_wp2;exact bodyPost_ret (v:=.tuple #[.agg #[.int .i64 s1,.slice B1 m1 d1],.slice A6 T6.length c6]) (by simp[results,Tryz.results6,go_sem, *]) rfl ⟨s1,B1,m1,d1,x1,A6,c6,T6,rfl,HF.out,h6,HI.out⟩
end
set_option maxHeartbeats 6400000
section
variable {w:World} {q nb cb:Nat} {A:Option Addr}
set_option maxRecDepth 100000 in
theorem l4Holey_s (hc:Cu w q A nb cb):Calls Tryz.prog 154 #[.pointer (some ⟨q,0,none⟩)] w (dgQ w q A nb cb):=by
 obtain⟨W,hW⟩: ∃W,W=(w.alloc (Obj.cells #[.int .i64 0,.slice none 0 0] 26)):=⟨_,rfl⟩;have HD:Hid (D0 w W q A nb cb):=by rw[hW];exact D0.new hc
 have HW:=hh_ hW;have KB:=hh_ (l1Once_s (k:=3) HD.cu (by omega) (by omega));clear hW hc;go_enter Tryz.func154,Tryz.ntmps154;go_wp2_with fail
 rw[<-HW.out];clear HW;refine KB.mono ?_;rintro e w1 ⟨y,rfl,hd⟩;replace HD:=hh_ (HD.draw hd);clear hd KB;cases y
 rotate_left
 ·have KR:=hh_ (l2Any_s HD.cu);have hq2:=HD.lt;go_wp2_with fail
  refine KR.mono ?_;rintro e w3 ⟨sz,B,m,d,x,rfl,hm1,hm7,ho,hd⟩;have HD3:=hh_ (HD.draw hd);have HF:=hh_ (dgQ.fin0 (sz:=sz) hm1 hm7 HD3.cu HD3.fr HD3.l1 ho hq2);have d0:=HD3.d.c0;have d1:=HD3.d.c1;have d2:=HD3.d.f0;have d3:=HD3.d.f1;clear ho hd KR HD;go_wp2;exact bodyPost_ret (v:=.agg #[.int .i64 sz,.slice B m d]) (by simp[results,Tryz.results154,go_sem, *]) rfl HF.out
 ·have KB:=hh_ (l1Below_s (k:=3) HD.cu (by omega) (by omega));go_wp2_with fail
  refine KB.mono ?_;rintro e w4 ⟨v,rfl,hv,hd⟩;have HD4:=hh_ (HD.draw hd);obtain⟨n,hn⟩: ∃n,n=v+4:=⟨_,rfl⟩;have hv2:(4:Int)+(v:Int)=n:=by omega
  have hn1:1<=n:=by omega
  have hn6:n<=6:=by omega
  have hv9:=hv;clear hn;rename∀(a:Act) (w':World),_->_=>hK
  refine hK _ _ ?_;have hw4:=HD4.lt;have KG:=hh_ (NamedGraph_s w4 (t:=⟨#[99,121,99,108,101]⟩) (.inr (.inl (by decide+kernel))) hn1 (by omega));clear hd KB HD;go_wp2_with fail
  refine KG.mono ?_;rintro e w5 ⟨A1,c1,x1,rfl,ho,hb⟩;have HD5:=hh_ (HD4.keep hb);have hw5:=hb.size;obtain⟨W6,hW6⟩: ∃W6,W6=(w5.alloc (Obj.cells #[.int .i64 n,.slice A1 n c1] 26)):=⟨_,rfl⟩;have hb6:Below w5.heap.size w5 W6:=by rw[hW6];exact br_.alloc nr_ _
  have hg6:GU W6 w5.heap.size (w.heap.size+1) n:=by
   rw[hW6];refine⟨A1,c1,x1,GC.new _ _ _ _ _,(ho.alloc _).mono (by omega) (by simp),fun e=> ?_⟩;rcases ho.at_block with h|⟨g,h,_,hlt⟩
   ·rw[h] at e;cases e
   ·rw[h] at e;simp only[Option.some.injEq,Addr.mk.injEq,and_true] at e;omega
  have HS:=hh_ ((HD5.keep hb6).ds hg6 (Nat.lt_succ_self _) (by omega));have KB:=hh_ (l1Below_s HS.cu (show 0<n from hn1) (by omega));have HW6:=hh_ hW6;clear hW6 hb6 hg6 ho hb KG HD4 HD5;go_wp2_with fail
  rw[<-HW6.out];clear HW6;refine KB.mono ?_;rintro e w7 ⟨a,rfl,ha,hd⟩;replace HS:=hh_ (HS.draw hd);clear hd KB;have KB:=hh_ (l1Below_s HS.cu (show 0<n from hn1) (by omega));obtain⟨_,_,_,hgA,_,_⟩:=HS.gu.ex;have e0:=hgA.c0;clear hgA;go_wp2_with fail
  refine KB.mono ?_;rintro e w8 ⟨b,rfl,hb,hd⟩;replace HS:=hh_ (HS.draw hd);clear hd KB;have KB:=hh_ (l1Once_s (k:=3) HS.cu (by omega) (by omega));go_wp2_with fail
  refine KB.mono ?_;rintro e w9 ⟨y,rfl,hd⟩;replace HS:=hh_ (HS.draw hd);clear hd KB;obtain⟨A2,c2,x2,hg1,ho1,hne⟩:=HS.gu.ex;have e0:=hg1.c0;have e1:=hg1.c1;have HG1:=hh_ hg1;have hz1:w5.heap.size<w9.heap.size:=hg1.lt;cases y
  ·have HF:=hh_ (dgQ.fin hn1 (by omega) HS.out ho1);have d0:=HS.d.c0;have d1:=HS.d.c1;have d2:=HS.d.f0;have d3:=HS.d.f1;clear hg1 ho1 hne;go_wp2;exact bodyPost_ret (v:=.agg #[.int .i64 n,.slice A2 n c2]) (by simp[results,Tryz.results154,go_sem, *]) rfl HF.out
  ·have KA:Hid (Calls Tryz.prog 91 #[.agg #[.int .i64 n,.slice A2 n c2],.int .i64 a,.int .i64 b] w9 _):=AddEdge_s (n:Int) A2 n c2 x2 a b w9 w9.heap.size ho1.rd nr_ (by omega);clear hg1 ho1 hne;go_wp2_with fail
   refine KA.mono ?_;rintro e v5 ⟨A5,c5,rfl,hO5,hb5⟩;have hn5:=HG1.keep hb5;have n0:=hn5.c0;have n1:=hn5.c1;have n2:=hn5.f0;have n3:=hn5.f1;obtain⟨V6,hV6⟩: ∃V6,V6=((v5.setCell ⟨w5.heap.size,0,none⟩ (.int .i64 n)).setCell ⟨w5.heap.size,1,none⟩ (.slice A5 n c5)):=⟨_,rfl⟩;have HS6:Hid (DS w V6 q A nb cb w5.heap.size (w.heap.size+1) n):=by rw[hV6];exact HS.set hb5 (hO5.mono (by omega) nr_)
   have HG6:Hid (GC V6 w5.heap.size n A5 n c5):=by rw[hV6];exact hn5.set
   have ho6:Own V6 (w.heap.size+1) V6.heap.size 3 1 A5 n c5 (fun j=> .int .i64 (aeX (n:Int) n x2 a b j)):=by
    rw[hV6];exact(hO5.keep (fr2 v5 w5.heap.size (.int .i64 n) (.slice A5 n c5)) (.inr (by omega))).mono (by omega) (fr2 v5 w5.heap.size (.int .i64 n) (.slice A5 n c5)).size
   have HF:=hh_ (dgQ.fin hn1 (by omega) HS6.out ho6);have hd5:=HS.d.keep hb5;have d0:=hd5.c0;have d1:=hd5.c1;have d2:=hd5.f0;have d3:=hd5.f1;have j1:(w.heap.size=w5.heap.size)=False:=by simp;omega
   have j2:(w5.heap.size=w.heap.size)=False:=by simp;omega
   have HV6:=hh_ hV6;clear hO5 hb5 hn5 ho6 hV6 KA e0 e1 hd5;go_wp2;rw[<-HV6.out];have r0:=HS6.d.c0;have r1:=HS6.d.c1;exact bodyPost_ret (v:=.agg #[.int .i64 n,.slice A5 n c5]) (by simp[results,Tryz.results154,go_sem, *]) rfl HF.out
end
set_option maxHeartbeats 6400000
section
variable {w:World} {q nb cb:Nat} {A:Option Addr}
set_option maxRecDepth 100000 in
theorem InducedOn_sn (sz:Int) (A:Option Addr) (m c:Nat) (x:Nat->Int) (s:Int) (w:World) (h:GA w A m c x) (hm:m<=1048576) (hn:setB sz m x s=false):
 Calls Tryz.prog 155 #[.agg #[.int .i64 sz,.slice A m c],.int .i64 s] w fun e w'=>e=.returned (.tuple #[.agg #[.int .i64 0,.slice none 0 0],.bool false])/\Below w.heap.size w w':=by
 obtain⟨W,hW⟩: ∃W,W=((w.alloc (Obj.cells #[.int .i64 sz,.slice A m c] 26)).alloc (Obj.cells #[.int .i64 0,.slice none 0 0] 26)):=⟨_,rfl⟩;have HB:Hid (From w W):=by rw[hW];exact(From.alloc _ _).alloc_ _
 have HZ:Hid (w.heap.size+2=W.heap.size):=by rw[hW];simp[Hid]
 have HS:Hid (From W W):=From.refl W;have HK:=hh_ (h.keep HB.below);have HC:Hid (GC W w.heap.size sz A m c):=by rw[hW];exact(GC.new _ _ _ _ _).keep (br_.alloc nr_ _)
 have HD:Hid (GC W (w.heap.size+1) 0 none 0 0):=by rw[hW];constructor<;>simp[go_sem]
 have HW:=hh_ hW;have Hn:=hh_ hn;clear hW h hn;go_enter Tryz.func155,Tryz.ntmps155;obtain⟨e0,e1⟩:=gc_ HC;have d0:=HD.c0;have d1:=HD.c1;have d2:=HD.f0;have d3:=HD.f1;go_wp2_with fail
 rw[<-HW.out];clear HW;refine(IsSet_sg sz A m c x s W HK hm).mono ?_;rw[Hn.out];rintro e w1 ⟨rfl,hb1⟩;clear e0 e1 d0 d1 d2 d3;replace HB:=hh_ (HB.keep hb1);replace HS:=hh_ (HS.keep hb1);replace HK:=hh_ (HK.keep hb1);replace HC:=hh_ (HC.keep hb1);replace HD:=hh_ (HD.keep hb1);clear hb1;obtain⟨e0,e1⟩:=gc_ HC;have d0:=HD.c0;have d1:=HD.c1;have d2:=HD.f0;have d3:=HD.f1;go_wp2;have HE:=(HB.set (q:=w.heap.size+1) (by omega) (.int .i64 0) (.slice none 0 0)).below;exact bodyPost_ret (v:=.tuple #[.agg #[.int .i64 0,.slice none 0 0],.bool false]) (by simp[results,Tryz.results155,go_sem, *]) rfl ⟨rfl,HE⟩
theorem dgQ.below {e:Ending} {w' w2:World} (h:dgQ w q A nb cb e w') (hb:Below w'.heap.size w' w2):dgQ w q A nb cb e w2:=by
 obtain⟨sz,B,m,d,x,rfl,h1,h2,ho,hd⟩:=h;exact⟨sz,B,m,d,x,rfl,h1,h2,(ho.keepB hb nr_).mono nr_ hb.size,hd.cu.keep hb,hd.fr.trans (Fr.of_below hb)⟩
set_option maxRecDepth 100000 in
theorem l30Small_s (hc:Cu w q A nb cb):Calls Tryz.prog 93 #[.pointer (some ⟨q,0,none⟩)] w (dgQ w q A nb cb):=by
 obtain⟨W,hW⟩: ∃W,W=(w.alloc (Obj.cells #[.int .i64 0,.slice none 0 0] 26)):=⟨_,rfl⟩;have HD:Hid (D0 w W q A nb cb):=by rw[hW];exact D0.new hc
 have HW:=hh_ hW;have KB:=hh_ (l4Holey_s HD.cu);have hlW:w.heap.size<W.heap.size:=HD.lt;clear hW hc;go_enter Tryz.func93,Tryz.ntmps93;go_wp2_with fail
 rw[<-HW.out];clear HW;refine KB.mono ?_;rintro e w1 ⟨sz,B,m,d,x,rfl,hm1,hm7,ho,hd⟩;replace HD:=hh_ (HD.draw hd);have HO:=hh_ ho;have hl1:=hd.fr.size;clear hd KB ho;have hql:q<w.heap.size:=HD.l1;obtain⟨W2,hW2⟩: ∃W2,W2=(w1.alloc (Obj.cells #[.int .i64 sz,.slice B m d] 26)):=⟨_,rfl⟩;have hb2:Below w1.heap.size w1 W2:=by rw[hW2];exact br_.alloc nr_ _
 have HD1:=HD;have HO1:=HO;replace HD:=hh_ (HD.keep hb2);replace HO:=hh_ (HO.keepB hb2 nr_);have HG:Hid (GC W2 w1.heap.size sz B m d):=by rw[hW2];exact GC.new _ _ _ _ _
 have hz2:w1.heap.size<W2.heap.size:=by rw[hW2];simp
 have j1:(w.heap.size=w1.heap.size)=False:=by simp;omega
 have j2:(w1.heap.size=w.heap.size)=False:=by simp;omega
 have HW2:=hh_ hW2;clear hW2 hb2;by_cases h5:5<sz
 rotate_left
 ·have i5:decide (5<sz)=false:=by simp;omega
  have HF:=hh_ ((dgQ.fin0 (sz:=sz) hm1 hm7 HD1.cu HD1.fr HD1.l1 HO1.out hlW).below (br_.alloc nr_ (Obj.cells #[.int .i64 sz,.slice B m d] 26)));have d0:=HD1.d.c0;have d1:=HD1.d.c1;have d2:=HD1.d.f0;have d3:=HD1.d.f1;have hlt1:w.heap.size<w1.heap.size:=by omega
  clear HW2 HD HO HG;go_wp2;exact bodyPost_ret (v:=.agg #[.int .i64 sz,.slice B m d]) (by simp[results,Tryz.results93,go_sem, *]) rfl HF.out
 ·have i5:decide (5<sz)=true:=by simp;omega
  have KB:=hh_ (l1Once_s (k:=12) HD.cu (by omega) (by omega));go_wp2_with fail
  rw[<-HW2.out];clear HW2;refine KB.mono ?_;rintro e w3 ⟨y,rfl,hd⟩;replace HD:=hh_ (HD.draw hd);replace HO:=hh_ (HO.keep hd.fr (.inr (by omega)));replace HG:=hh_ (HG.keepF hd.fr (.inr (by omega)));have hl3:=hd.fr.size;clear hd KB HD1 HO1;rename∀(a:Act) (w':World),_->_=>hK
  refine hK _ _ ?_;clear hK;cases y
  ·obtain⟨e0,e1⟩:=gc_ HG;cases hok:okB sz m x
   ·have Hns:Hid (setB sz m x 31=false):=by show _=_;unfold setB;rw[hok];rfl
    have KI:=hh_ (InducedOn_sn sz B m d x 31 w3 ⟨HO.rd.keep br_ (by omega)⟩ (by omega) Hns.out);clear hok Hns;go_wp2_with fail
    refine KI.mono ?_;rintro e w4 ⟨rfl,hb⟩;replace HD:=hh_ (HD.keep hb);replace HO:=hh_ (HO.keepB hb (by omega));replace HG:=hh_ (HG.keep hb);have hl4:=hb.size;have HF:=hh_ ((dgQ.fin0 (sz:=sz) hm1 hm7 HD.cu HD.fr HD.l1 (HO.mono nr_ (by omega)) hlW).below (br_.alloc nr_ (Obj.cells #[.int .i64 0,.slice none 0 0] 26)));rename∀(a:Act) (w':World),_->_=>hK
    refine hK _ _ ?_;clear hK hb KI;have hlt4:w.heap.size<w4.heap.size:=by omega
    have hlt5:w1.heap.size<w4.heap.size:=by omega
    have j3:(w.heap.size=w4.heap.size)=False:=by simp;omega
    have j4:(w4.heap.size=w.heap.size)=False:=by simp;omega
    obtain⟨e0,e1⟩:=gc_ HG;have d0:=HD.d.c0;have d1:=HD.d.c1;have d2:=HD.d.f0;have d3:=HD.d.f1;go_wp2;exact bodyPost_ret (v:=.agg #[.int .i64 sz,.slice B m d]) (by simp[results,Tryz.results93,go_sem, *]) rfl HF.out
   ·obtain⟨_,es,vg0,_⟩:=okB_ok' hok;subst es;have hm6:6<=m:=by omega
    have h64:=Nat.pow_le_pow_right (n:=2) (by decide) hm6;have h31:cn 31=5:=by decide
    have HV:GV w3 B m d (rw_ x):=GV.of HO.rd (by omega) hok;have KI:Hid (Calls Tryz.prog 155 #[.agg #[.int .i64 (m:Int),.slice B m d],.int .i64 31] w3 _):=InducedOn_sv (s:=31) HV (by omega) (by omega);rw[h31] at KI;clear hok HV vg0;go_wp2_with fail
    refine KI.mono ?_;rintro e w4 ⟨A4,c4,rfl,ho,hb⟩;replace HD:=hh_ (HD.keep hb);have hl4:=hb.size;have HF:=hh_ ((dgQ.fin0 (sz:=5) (by decide) (by decide) HD.cu HD.fr HD.l1 ho (by omega)).below (br_.alloc nr_ (Obj.cells #[.int .i64 5,.slice A4 5 c4] 26)));rename∀(a:Act) (w':World),_->_=>hK
    refine hK _ _ ?_;clear hK hb KI;have hlt4:w.heap.size<w4.heap.size:=by omega
    have hlt5:w1.heap.size<w4.heap.size:=by omega
    have j3:(w.heap.size=w4.heap.size)=False:=by simp;omega
    have j4:(w4.heap.size=w.heap.size)=False:=by simp;omega
    have d0:=HD.d.c0;have d1:=HD.d.c1;have d2:=HD.d.f0;have d3:=HD.d.f1;go_wp2;exact bodyPost_ret (v:=.agg #[.int .i64 5,.slice A4 5 c4]) (by simp[results,Tryz.results93,go_sem, *]) rfl HF.out
  ·have HF:=hh_ (dgQ.fin0 (sz:=sz) hm1 hm7 HD.cu HD.fr HD.l1 (HO.mono nr_ (by omega)) hlW);obtain⟨e0,e1⟩:=gc_ HG;have d0:=HD.d.c0;have d1:=HD.d.c1;have d2:=HD.d.f0;have d3:=HD.d.f1;go_wp2;exact bodyPost_ret (v:=.agg #[.int .i64 sz,.slice B m d]) (by simp[results,Tryz.results93,go_sem, *]) rfl HF.out
end
set_option maxHeartbeats 3200000
section
variable {w:World} {q nb cb:Nat} {A:Option Addr}
set_option maxRecDepth 100000 in
theorem l29Name_s (hc:Cu w q A nb cb):Calls Tryz.prog 96 #[.pointer (some ⟨q,0,none⟩)] w fun e w'=> ∃t:ByteArray,e=.returned (.string t)/\Dr w q A nb cb w':=by
 have HD:Hid (Dr w q A nb cb w):=Dr.of hc br_;have hql:q<w.heap.size:=hc.lt;clear hc;have KN:Hid (∀z,Calls Tryz.prog 71 #[] z _):=fun z=>ClassNames_sv z
 go_enter Tryz.func96,Tryz.ntmps96;go_wp2_with fail
 refine(KN.out w).mono ?_;rintro e w1 ⟨A1,c1,rfl,ho,hb⟩;replace HD:=hh_ (HD.trans (Dr.of HD.cu hb));have HO:=hh_ ho;have hl1:=hb.size;clear hb ho KN;have KB:=hh_ (l1Once_s (k:=18) HD.cu (by omega) (by omega));go_wp2_with fail
 refine KB.mono ?_;rintro e w2 ⟨y,rfl,hd⟩;replace HD:=hh_ (HD.trans hd);replace HO:=hh_ (HO.keep hd.fr (.inr (by omega)));have hl2:=hd.fr.size;clear hd KB;cases y
 ·have KB:=hh_ (l1Below_s (k:=9) HD.cu (by omega) (by omega));go_wp2_with fail
  refine KB.mono ?_;rintro e w3 ⟨v,rfl,hv,hd⟩;replace HD:=hh_ (HD.trans hd);replace HO:=hh_ (HO.keep hd.fr (.inr (by omega)));obtain⟨g,eB,_,_,_,hcl,_⟩:=HO.at_ (by omega);subst eB;have k1:w3.cell? ⟨g,v,none⟩=some (.string (nm v)):=hcl v (by omega);have i1:(v:Int)<9:=by omega
  clear hd KB hcl;rename∀(a:Act) (w':World),_->_=>hK
  refine hK _ _ ?_;clear hK;go_wp2;go_ret;exact⟨_,rfl,HD.out⟩
 ·rename∀(a:Act) (w':World),_->_=>hK
  refine hK _ _ ?_;clear hK;obtain⟨W4,hW4⟩: ∃W4,W4=w2.alloc (Obj.cells #[.string ⟨#[]⟩,.string ⟨#[67,104,111,114,100,97,108]⟩,.string ⟨#[112,108,97,110,97,114]⟩] 9):=⟨_,rfl⟩;have hb4:Below w2.heap.size w2 W4:=by rw[hW4];exact br_.alloc nr_ _
  have hl4:w2.heap.size<W4.heap.size:=by rw[hW4];simp
  have HL:Hid (LT W4 w2.heap.size 3 fun _=>True):=by
   refine⟨fun j hj=> ?_⟩;rw[hW4];have hj3:j=0\/j=1\/j=2:=by omega
   rcases hj3 with rfl|rfl|rfl<;>exact⟨_,trivial,by simp[go_sem];rfl⟩
  replace HD:=hh_ (HD.trans (Dr.of HD.cu hb4));have KP:=hh_ (l1Pick_s (k:=3) HD.cu HL.out (by omega) hl4 (by omega) (by omega));have HW4:=hh_ hW4;clear hW4 hb4 HL;go_wp2_with fail
  rw[<-HW4.out];clear HW4;refine KP.mono ?_;rintro e w5 ⟨t,rfl,_,hd⟩;replace HD:=hh_ (HD.trans hd);clear hd KP;rename∀(a:Act) (w':World),_->_=>hK
  refine hK _ _ ?_;clear hK;go_wp2;go_ret;exact⟨_,rfl,HD.out⟩
end
set_option maxHeartbeats 6400000
set_option maxRecDepth 100000 in
theorem ComplementOf_s (sz:Int) (A:Option Addr) (m c:Nat) (x:Nat->Int) (w:World) (h:GA w A m c x) (hm:m<=1048576):
 Calls Tryz.prog 94 #[.agg #[.int .i64 sz,.slice A m c]] w fun e w'=> ∃sz' A' m' c',e=.returned (.tuple #[.agg #[.int .i64 sz',.slice A' m' c'],.bool (okB sz m x)])/\(okB sz m x=true->sz'=(m:Int)/\m'=m/\GV w' A' m c' (coR (rw_ x) m))/\Below w.heap.size w w':=by
 obtain⟨W,hW⟩: ∃W,W=((w.alloc (Obj.cells #[.int .i64 sz,.slice A m c] 26)).alloc (Obj.cells #[.int .i64 0,.slice none 0 0] 26)):=⟨_,rfl⟩;have HB:Hid (From w W):=by rw[hW];exact(From.alloc _ _).alloc_ _
 have HZ:Hid (w.heap.size+2=W.heap.size):=by rw[hW];simp[Hid]
 have HS:Hid (From W W):=From.refl W;have HK:=hh_ (h.keep HB.below);have HC:Hid (GC W w.heap.size sz A m c):=by rw[hW];exact(GC.new _ _ _ _ _).keep (br_.alloc nr_ _)
 have HD:Hid (GC W (w.heap.size+1) 0 none 0 0):=by rw[hW];constructor<;>simp[go_sem]
 have HW:=hh_ hW;clear hW h;go_enter Tryz.func94,Tryz.ntmps94;obtain⟨e0,e1⟩:=gc_ HC;have d0:=HD.c0;have d1:=HD.c1;have d2:=HD.f0;have d3:=HD.f1;go_wp2_with fail
 rw[<-HW.out];refine(IsGraph_sany sz A m c x W W.heap.size HK.rd nr_ hm).mono ?_;rintro e w1 ⟨rfl,hb1⟩;clear HW;clear e0 e1 d0 d1 d2 d3;replace HB:=hh_ (HB.keep hb1);replace HS:=hh_ (HS.keep hb1);replace HK:=hh_ (HK.keep hb1);replace HC:=hh_ (HC.keep hb1);replace HD:=hh_ (HD.keep hb1);clear hb1;obtain⟨e0,e1⟩:=gc_ HC;have d0:=HD.c0;have d1:=HD.c1;have d2:=HD.f0;have d3:=HD.f1;cases ho:okB sz m x
 ·have Ho:=hh_ ho;clear ho;go_wp2;have HE:=(HB.set (q:=w.heap.size+1) (by omega) (.int .i64 0) (.slice none 0 0)).below;exact bodyPost_ret (v:=.tuple #[.agg #[.int .i64 0,.slice none 0 0],.bool false]) (by simp[results,Tryz.results94,go_sem, *]) rfl ⟨0,none,0,0,by rw[Ho.out],(fun h=>by rw[Ho.out] at h;cases h),HE⟩
 ·obtain⟨_,es,vg0,_⟩:=okB_ok' ho;subst es;have hn1:=vg0.n1;have hn7:=vg0.n7;have HG:Hid (GV w1 A m c (rw_ x)):=HK.gv ho;have Ho:=hh_ ho;have HY:Hid (w.heap.size+2<=w1.heap.size):=by have:=HS.below.size;have:=HZ.out;show _<=_;omega
  obtain⟨b,o,rfl⟩:=HG.addr;obtain⟨W2,hW2⟩: ∃W2,W2=(w1.alloc (Obj.cells #[.int .i64 (m:Int),Value.slice none 0 0] 26)):=⟨_,rfl⟩;have HR2:Hid (From w1 W2):=by rw[hW2];exact From.alloc _ _
  have HQ:Hid (GC W2 w1.heap.size m none 0 0):=by rw[hW2];exact GC.new _ _ _ _ _
  have hz2:w1.heap.size+1=W2.heap.size:=by rw[hW2];simp
  have HW2:=hh_ hW2;clear hW2 ho vg0;go_wp2_with fail
  rw[<-HW2.out];clear HW2;go_loopw [5] (fun k wr=> ∃(K:Nat) (A':Option Addr) (c':Nat),K<=m/\k=.int .i64 K/\Hid (GC wr w1.heap.size m A' K c')/\Hid (Own wr (w1.heap.size+1) wr.heap.size 3 1 A' K c' (fun j=> .int .i64 (coR (rw_ x) m j:Nat)))/\Hid (From w1 wr)/\Hid (w1.heap.size+1<=wr.heap.size)) (fun k _=>m-(intOf k).toNat);case atStart=>exact⟨0,none,0,Nat.zero_le _,rfl,HQ,Own.nil _ _ _ _ _ _,HR2,Nat.le_of_eq hz2⟩
  case round=>
   obtain⟨K,A',c',hK,rfl,HQr,HOr,HRr,HZr⟩:=hrel;have HCr:=hh_ (HC.keep HRr.below);have e0:=HCr.c0;have e1:=HCr.c1;have g0:=HQr.c0;have g1:=HQr.c1;have g2:=HQr.f0;have g3:=HQr.f1;by_cases hlt:K<m
   ·have HGr:=hh_ (HG.keep HRr.below);have q0:=HGr.row hlt;have hr:=HGr.vg.lt K hlt;obtain⟨y,hy⟩: ∃y,y=rw_ x K:=⟨_,rfl⟩;have hirr:=HGr.vg.irr K hlt;have hco:coR (rw_ x) m K=2^m-1-y-2^K/\y+2^K<=2^m-1:=by rw[hy];exact coR_sub HGr.vg hlt
    rw[<-hy] at q0 hr;have t1:=two_pow_int m hn7;have t2:=two_pow_int K (by omega);have p1:=pow_shl m hn7;have p2:=pow_shl K (by omega);have c1:((2^m:Nat):Int)=2^m:=by simp
    have c2:((2^K:Nat):Int)=2^K:=by simp
    have hle:=hco.2;have t3:(y:Int)+2^K<=2^m-1:=by rw[<-c1,<-c2];omega
    have s1:IntKind.i64.wrap ((2:Int)^m-1)=2^m-1:=Go.IntWalk.i64_in _ (by omega);have s2:IntKind.i64.wrap ((2:Int)^m-1-(y:Int))=2^m-1-(y:Int):=Go.IntWalk.i64_in _ (by omega);have s3:IntKind.i64.wrap ((2:Int)^m-1-(y:Int)-2^K)=((coR (rw_ x) m K:Nat):Int):=by
     rw[hco.1,Go.IntWalk.i64_in _ (by omega)];omega
    have i1:(K:Int)<m:=by omega
    obtain⟨v,hv⟩: ∃v,v=coR (rw_ x) m K:=⟨_,rfl⟩;rw[<-hv] at s3;have Hv:=hh_ hv;have HP:Hid (Own ((wr.alloc (Obj.cells #[.int .i64 (v:Int)] 3)).drew) (w1.heap.size+1) wr.heap.size 3 1 A' K c' (fun j=> .int .i64 (coR (rw_ x) m j:Nat))):=HOr.alloc _;have HXn:Hid (∀i,i<1->(#[.int .i64 (v:Int)]:Array Value)[i]? =some ((fun j=>Value.int .i64 ((coR (rw_ x) m j:Nat):Int)) (K*1+i))):=by
     intro i hi;obtain rfl:i=0:=by omega
     simp[Hv.out]
    have n5:w1.heap.size<wr.heap.size:=by have:=HZr.out;omega
    have M0:Hid (GC ((wr.alloc (Obj.cells #[.int .i64 (v:Int)] 3)).drew) w1.heap.size m A' K c'):=(HQr.keep (br_.alloc nr_ _)).drew;have n6:K<=1000:=by omega
    clear hv hco hle t1 t2 t3 c1 c2 hr hy hirr HGr HCr;go_wp2;go_region_law
     ((refine step_push _ (by rfl) _ _ _ (by rfl) 3 _ 1 8 Tryz.underlying24 info_int rfl (by omega) (w1.heap.size+1) wr.heap.size A' K c' (fun j=> .int .i64 (coR (rw_ x) m j:Nat)) (by rfl) HP.out (by have:=HZr.out;simp;omega) wr.heap.size #[.int .i64 (v:Int)] 3 (0,0) 1 (heap_alloc_new wr _) (by rfl) rfl HXn.out (by simp[Value.oneCell']) (by omega) (by omega) ?_;intro g6 cap w6 hp;have m0:=(hp.below.cell (p:=⟨w1.heap.size,0,none⟩) (Nat.lt_succ_self _)).trans M0.c0;have m1:=(hp.below.cell (p:=⟨w1.heap.size,1,none⟩) (Nat.lt_succ_self _)).trans M0.c1;have m3:=(World.frozen?_of_block (hp.below.block w1.heap.size (Nat.lt_succ_self _))).trans M0.f1;have m2:=(World.frozen?_of_block (hp.below.block w1.heap.size (Nat.lt_succ_self _))).trans M0.f0))
    all_goals
     obtain⟨W7,hW7⟩: ∃W7,W7=(w6.setCell ⟨w1.heap.size,1,none⟩ (.slice (some ⟨g6,0,none⟩) (K+1) cap)):=⟨_,rfl⟩;rw[<-hW7];have F7:Fr w1.heap.size (w1.heap.size+1) w6 W7:=by rw[hW7];exact(Fr.refl _ _ w6).setCell (p:=⟨w1.heap.size,1,none⟩) nr_ (Nat.lt_succ_self _) _
     have HQ6:Hid (GC W7 w1.heap.size m (some ⟨g6,0,none⟩) (K+1) cap):=by rw[hW7];constructor<;>simp[go_sem,m0,m1,m2,m3]
     have HO6:Hid (Own W7 (w1.heap.size+1) W7.heap.size 3 1 (some ⟨g6,0,none⟩) (K+1) cap (fun j=> .int .i64 (coR (rw_ x) m j:Nat))):=(hp.own.keep F7 (.inr nr_)).mono nr_ F7.size;have HR6:Hid (From w1 W7):=by rw[hW7];exact⟨((HRr.below.trans ((Below.refl w1.heap.size wr).alloc (by omega) _).drew).trans (hp.below.mono (by omega))).setCell (p:=⟨w1.heap.size,1,none⟩) nr_ _⟩
     have HZ6:Hid (w1.heap.size+1<=W7.heap.size):=by
      show _<=_;have h1:=hp.below.size;have h2:((wr.alloc (Obj.cells #[.int .i64 (v:Int)] 3)).drew).heap.size=wr.heap.size+1:=by simp
      have h3:=F7.size;omega
     clear hp m0 m1 m2 m3 hW7 F7 HP HXn M0;go_wp2;go_roundw;case rel=>exact⟨K+1,some ⟨g6,0,none⟩,cap,by omega,by go_num,HQ6,HO6,HR6,HZ6⟩
     case measure=>simp[intOf]<;>omega
   ·obtain rfl:m=K:=by omega
    have i1:(m:Int)<=m:=Int.le_refl _;have HDr:=hh_ (HD.keep HRr.below);have d0:=HDr.c0;have d1:=HDr.c1;have d2:=HDr.f0;have d3:=HDr.f1;go_wp2;have F:=fr2 wr (w.heap.size+1) (.int .i64 (m:Int)) (.slice A' m c');have O1:=(HOr.keep F (.inr (by have:=HY.out;omega))).mono nr_ F.size;have HE:=(((HB.keep HRr.below).set (q:=w.heap.size+1) (by omega) (.int .i64 (m:Int)) (.slice A' m c'))).below;exact bodyPost_ret (v:=.tuple #[.agg #[.int .i64 (m:Int),.slice A' m c'],.bool true]) (by simp[results,Tryz.results94,go_sem, *]) rfl ⟨m,A',m,c',by rw[Ho.out],(fun _=>⟨rfl,rfl,⟨coR_vg HG.vg,O1.rd⟩⟩),HE⟩
theorem OwnD.pairB {w:World} {lo hi c k:Nat} {A Ad:Option Addr} {cd:Nat} {v u:Int} {D:List Dsc} (h:OwnD w lo hi A c D) (hk:D[k]? =some (Ad,cd,[v,u])):
 ∃g gd,A=some ⟨g,0,none⟩/\Ad=some ⟨gd,0,none⟩/\w.cell? ⟨g,k,none⟩=some (.slice Ad 2 cd)/\w.cell? ⟨gd,0,none⟩=some (.int .i64 v)/\w.cell? ⟨gd,1,none⟩=some (.int .i64 u)/\g<hi/\gd<hi:=by
 obtain⟨g,gd,e1,e2,h1,h2,h3⟩:=h.pair hk;obtain⟨hlt,he⟩:=List.getElem?_eq_some_iff.1 hk;obtain⟨g',e3,_,hg,_⟩:=h.1.at_ (by omega);obtain⟨gd',e4,_,hgd,_⟩:=(h.2.1 (Ad,cd,[v,u]) (List.mem_of_getElem? hk)).at_ (by show 0<2;omega);rw[e1] at e3;rw[show ((Ad,cd,[v,u]):Dsc).1=Ad from rfl,e2] at e4;simp only[Option.some.injEq,Addr.mk.injEq,and_true] at e3 e4;subst e3;subst e4;exact⟨g,gd,e1,e2,h1,h2,h3,hg,hgd⟩
section
variable {A:Option Addr} {m c:Nat} {r:Nat->Nat} {w:World} {E:List (Nat×Nat)} {b lo hi ce:Nat} {Ae:Option Addr} {D:List Dsc}
end
end Go.Proofs.YtfabbohijhjpcaaGreatDoor
