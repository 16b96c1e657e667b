/- Lemmas. -/
import Derived.Test.YtfabbohijhjpcaaGreatDoorRbWbI
namespace Go.Proofs.YtfabbohijhjpcaaGreatDoor
open Go.RowKit
set_option maxHeartbeats 6400000
set_option maxRecDepth 100000 in
theorem ComplementOf_sn (sz:Int) (A:Option Addr) (m c:Nat) (x:Nat->Int) (w:World) (h:GA w A m c x) (hm:m<=1048576) (hn:okB sz m x=false):
 Calls Tryz.prog 94 #[.agg #[.int .i64 sz,.slice A m c]] w fun e w'=>e=.returned (.tuple #[.agg #[.int .i64 0,.slice none 0 0],.bool false])/\Below w.heap.size w w':=by
 obtain⟨W,hW⟩: ∃W,W=((w.alloc (Obj.cells #[.int .i64 sz,.slice A m c] 26)).alloc (Obj.cells #[.int .i64 0,.slice none 0 0] 26)):=⟨_,rfl⟩;have HB:Hid (From w W):=by rw[hW];exact(From.alloc _ _).alloc_ _
 have HZ:Hid (w.heap.size+2=W.heap.size):=by rw[hW];simp[Hid]
 have HS:Hid (From W W):=From.refl W;have HK:=hh_ (h.keep HB.below);have HC:Hid (GC W w.heap.size sz A m c):=by rw[hW];exact(GC.new _ _ _ _ _).keep (br_.alloc nr_ _)
 have HD:Hid (GC W (w.heap.size+1) 0 none 0 0):=by rw[hW];constructor<;>simp[go_sem]
 have HW:=hh_ hW;have Hn:=hh_ hn;clear hW h hn;go_enter Tryz.func94,Tryz.ntmps94;obtain⟨e0,e1⟩:=gc_ HC;have d0:=HD.c0;have d1:=HD.c1;have d2:=HD.f0;have d3:=HD.f1;go_wp2_with fail
 rw[<-HW.out];clear HW;refine(IsGraph_sany sz A m c x W W.heap.size HK.rd nr_ hm).mono ?_;rw[Hn.out];rintro e w1 ⟨rfl,hb1⟩;clear e0 e1 d0 d1 d2 d3;replace HB:=hh_ (HB.keep hb1);replace HS:=hh_ (HS.keep hb1);replace HK:=hh_ (HK.keep hb1);replace HC:=hh_ (HC.keep hb1);replace HD:=hh_ (HD.keep hb1);clear hb1;obtain⟨e0,e1⟩:=gc_ HC;have d0:=HD.c0;have d1:=HD.c1;have d2:=HD.f0;have d3:=HD.f1;go_wp2;have HE:=(HB.set (q:=w.heap.size+1) (by omega) (.int .i64 0) (.slice none 0 0)).below;exact bodyPost_ret (v:=.tuple #[.agg #[.int .i64 0,.slice none 0 0],.bool false]) (by simp[results,Tryz.results94,go_sem, *]) rfl ⟨rfl,HE⟩
def pgQ (w:World) (q:Nat) (A:Option Addr) (nb cb:Nat) (e:Ending) (w':World):Prop:=
 ∃(s1:Int) (B1:Option Addr) (m1 d1:Nat) (x1:Nat->Int) (s2:Int) (B2:Option Addr) (m2 d2:Nat) (x2:Nat->Int),e=.returned (.tuple #[.agg #[.int .i64 s1,.slice B1 m1 d1],.agg #[.int .i64 s2,.slice B2 m2 d2]])/\(1<=m1/\m1<=7)/\(1<=m2/\m2<=7)/\Own w' w.heap.size w'.heap.size 3 1 B1 m1 d1 (fun j=> .int .i64 (x1 j))/\Own w' w.heap.size w'.heap.size 3 1 B2 m2 d2 (fun j=> .int .i64 (x2 j))/\Dr w q A nb cb w'
theorem OwnD.pairL {w:World} {lo hi c k:Nat} {A Ad:Option Addr} {cd:Nat} {v u:Int} {D:List Dsc} (h:OwnD w lo hi A c D) (hk:D[k]? =some (Ad,cd,[v,u])):
 ∃g gd,A=some ⟨g,0,none⟩/\Ad=some ⟨gd,0,none⟩/\w.cell? ⟨g,k,none⟩=some (.slice Ad 2 cd)/\w.cell? ⟨gd,0,none⟩=some (.int .i64 v)/\w.cell? ⟨gd,1,none⟩=some (.int .i64 u)/\(lo<=g/\g<hi)/\(lo<=gd/\gd<hi):=by
 obtain⟨g,gd,e1,e2,h1,h2,h3,hg,hgd⟩:=h.pairB hk;obtain⟨hlt,he⟩:=List.getElem?_eq_some_iff.1 hk;obtain⟨g',e3,hg',_⟩:=h.1.at_ (by omega);obtain⟨gd',e4,hgd',_⟩:=(h.2.1 (Ad,cd,[v,u]) (List.mem_of_getElem? hk)).at_ (by show 0<2;omega);rw[e1] at e3;rw[show ((Ad,cd,[v,u]):Dsc).1=Ad from rfl,e2] at e4;simp only[Option.some.injEq,Addr.mk.injEq,and_true] at e3 e4;subst e3;subst e4;exact⟨g,gd,e1,e2,h1,h2,h3,⟨hg',hg⟩,⟨hgd',hgd⟩⟩
theorem pgQ.fin {w wr W:World} {q nb cb:Nat} {A:Option Addr} {s1 s2:Int} {B1 B2:Option Addr} {m1 m2 d1 d2 l1 h1 l2 h2:Nat} {x1 x2:Nat->Int} (hd:Dr w q A nb cb wr) (hq:q<w.heap.size) (F:Fr w.heap.size (w.heap.size+2) wr W) (hm1:1<=m1/\m1<=7) (hm2:1<=m2/\m2<=7) (o1:Own wr l1 h1 3 1 B1 m1 d1 (fun j=> .int .i64 (x1 j))) (o2:Own wr l2 h2 3 1 B2 m2 d2 (fun j=> .int .i64 (x2 j))) (e1:w.heap.size+2<=l1) (e2:w.heap.size+2<=l2) (e3:h1<=wr.heap.size) (e4:h2<=wr.heap.size):
 pgQ w q A nb cb (.returned (.tuple #[.agg #[.int .i64 s1,.slice B1 m1 d1],.agg #[.int .i64 s2,.slice B2 m2 d2]])) W:=
 ⟨s1,B1,m1,d1,x1,s2,B2,m2,d2,x2,rfl,hm1,hm2,(o1.keep F (.inr e1)).mono (by omega) (Nat.le_trans e3 F.size),(o2.keep F (.inr e2)).mono (by omega) (Nat.le_trans e4 F.size),hd.cu.keepF F (by omega),hd.fr.past F nr_⟩
theorem fr4 (w:World) (q:Nat) (a b c d:Value):Fr q (q+2) w ((((w.setCell ⟨q,0,none⟩ a).setCell ⟨q,1,none⟩ b).setCell ⟨q+1,0,none⟩ c).setCell ⟨q+1,1,none⟩ d):=
 ((((Fr.refl _ _ w).setCell (p:=⟨q,0,none⟩) nr_ (by show q<q+2;omega) _).setCell (p:=⟨q,1,none⟩) nr_ (by show q<q+2;omega) _).setCell (p:=⟨q+1,0,none⟩) (by show q<=q+1;omega) (by show q+1<q+2;omega) _).setCell (p:=⟨q+1,1,none⟩) (by show q<=q+1;omega) (by show q+1<q+2;omega) _
section
variable {w:World} {q nb cb:Nat} {A:Option Addr}
set_option maxRecDepth 100000 in
theorem l31Pair_s (hc:Cu w q A nb cb):Calls Tryz.prog 42 #[.pointer (some ⟨q,0,none⟩)] w (pgQ w q A nb cb):=by
 obtain⟨W,hW⟩: ∃W,W=((w.alloc (Obj.cells #[.int .i64 0,.slice none 0 0] 26)).alloc (Obj.cells #[.int .i64 0,.slice none 0 0] 26)):=⟨_,rfl⟩;have hbW:Below w.heap.size w W:=by rw[hW];exact(br_.alloc nr_ _).alloc (by simp) _
 have hql:q<w.heap.size:=hc.lt;have hlW:W.heap.size=w.heap.size+2:=by rw[hW];simp
 have HD:Hid (Dr w q A nb cb W):=Dr.of hc hbW;have HR0:Hid (GC W w.heap.size 0 none 0 0):=by rw[hW];exact(GC.new _ _ _ _ _).keep (br_.alloc nr_ _)
 have HR1:Hid (GC W (w.heap.size+1) 0 none 0 0):=by rw[hW];constructor<;>simp[go_sem]
 have HW:=hh_ hW;have KB:=hh_ (l30Small_s HD.cu);clear hW hc hbW;go_enter Tryz.func42,Tryz.ntmps42;go_wp2_with fail
 rw[<-HW.out];clear HW;refine KB.mono ?_;rintro e w1 ⟨sz,B,m,d,x,rfl,hm1,hm7,ho,hd⟩;replace HD:=hh_ (HD.trans hd);replace HR0:=hh_ (HR0.keepF hd.fr (.inr (by omega)));replace HR1:=hh_ (HR1.keepF hd.fr (.inr (by omega)));have hl1:=hd.fr.size;have HO:=hh_ ho;clear hd KB ho;obtain⟨V1,hV1⟩: ∃V1,V1=(w1.alloc (Obj.cells #[.int .i64 sz,.slice B m d] 26)):=⟨_,rfl⟩;have hb1:Below w1.heap.size w1 V1:=by rw[hV1];exact br_.alloc nr_ _
 have HG:Hid (GC V1 w1.heap.size sz B m d):=by rw[hV1];exact GC.new _ _ _ _ _
 have hz1:V1.heap.size=w1.heap.size+1:=by rw[hV1];simp
 replace HD:=hh_ (HD.trans (Dr.of HD.cu hb1));replace HR0:=hh_ (HR0.keep hb1);replace HR1:=hh_ (HR1.keep hb1);replace HO:=hh_ (HO.keepB hb1 nr_);have HV1:=hh_ hV1;have KC:=hh_ (l2Copy_any sz B m d x V1 w1.heap.size HO.rd (by omega) (by omega));clear hV1 hb1;go_wp2_with fail
 rw[<-HV1.out];clear HV1;refine KC.mono ?_;rintro e w2 ⟨B2,d2,rfl,ho2,hb⟩;replace HD:=hh_ (HD.trans (Dr.of HD.cu hb));replace HR0:=hh_ (HR0.keep hb);replace HR1:=hh_ (HR1.keep hb);replace HG:=hh_ (HG.keep hb);replace HO:=hh_ (HO.keepB hb (by omega));have HP:=hh_ ho2;have hl2:=hb.size;clear hb KC ho2;obtain⟨V2,hV2⟩: ∃V2,V2=(w2.alloc (Obj.cells #[.int .i64 sz,.slice B2 m d2] 26)):=⟨_,rfl⟩;have hb2:Below w2.heap.size w2 V2:=by rw[hV2];exact br_.alloc nr_ _
 have HH:Hid (GC V2 w2.heap.size sz B2 m d2):=by rw[hV2];exact GC.new _ _ _ _ _
 have hz2:V2.heap.size=w2.heap.size+1:=by rw[hV2];simp
 obtain⟨e0,e1⟩:=gc_ HG;have hlt2:w1.heap.size<w2.heap.size:=by omega
 replace HD:=hh_ (HD.trans (Dr.of HD.cu hb2));replace HR0:=hh_ (HR0.keep hb2);replace HR1:=hh_ (HR1.keep hb2);replace HG:=hh_ (HG.keep hb2);replace HO:=hh_ (HO.keepB hb2 (by omega));replace HP:=hh_ (HP.keepB hb2 nr_);have HV2:=hh_ hV2;have KC:Hid (Calls Tryz.prog 94 #[.agg #[.int .i64 sz,.slice B m d]] V2 fun e w'=> ∃(s3:Int) (B3:Option Addr) (m3 d3:Nat) (b:Bool),e=.returned (.tuple #[.agg #[.int .i64 s3,.slice B3 m3 d3],.bool b])/\(b=true/\s3=(m:Int)/\m3=m/\GV w' B3 m d3 (coR (rw_ x) m)\/b=false/\s3=0/\B3=none/\m3=0/\d3=0)/\Below V2.heap.size V2 w'):=by
  have hga:GA V2 B m d x:=⟨HO.rd.keep br_ (by omega)⟩;cases hok:okB sz m x
  ·refine(ComplementOf_sn sz B m d x V2 hga (by omega) hok).mono ?_;rintro e w' ⟨rfl,hb⟩;exact⟨0,none,0,0,false,rfl,.inr ⟨rfl,rfl,rfl,rfl,rfl⟩,hb⟩
  ·refine(ComplementOf_s sz B m d x V2 hga (by omega)).mono ?_;rintro e w' ⟨s3,B3,m3,d3,rfl,hyes,hb⟩;obtain⟨e1,e2,hg⟩:=hyes hok;exact⟨s3,B3,m3,d3,true,by rw[hok],.inl ⟨rfl,e1,e2,hg⟩,hb⟩
 clear hV2 hb2;go_wp2_with fail
 rw[<-HV2.out];clear HV2 e0 e1;refine KC.mono ?_;rintro e w3 ⟨s3,B3,m3,d3,b,rfl,hx,hb⟩;have hR: ∃x3:Nat->Int,Rd w3 w3.heap.size B3 m3 d3 x3/\m3<=7:=by
  rcases hx with ⟨_,_,rfl,hg⟩|⟨_,_,rfl,rfl,rfl⟩
  ·exact⟨_,hg.rd,hm7⟩
  ·exact⟨fun _=>0,⟨nr_,fun h=>absurd h (by omega)⟩,by omega⟩
 obtain⟨x3,hR3,hm3⟩:=hR;replace HD:=hh_ (HD.trans (Dr.of HD.cu hb));replace HR0:=hh_ (HR0.keep hb);replace HR1:=hh_ (HR1.keep hb);replace HG:=hh_ (HG.keep hb);replace HH:=hh_ (HH.keep hb);replace HO:=hh_ (HO.keepB hb (by omega));replace HP:=hh_ (HP.keepB hb (by omega));have hl3:=hb.size;clear hx hb KC;obtain⟨V3,hV3⟩: ∃V3,V3=(w3.alloc (Obj.cells #[.int .i64 s3,.slice B3 m3 d3] 26)):=⟨_,rfl⟩;have hb3:Below w3.heap.size w3 V3:=by rw[hV3];exact br_.alloc nr_ _
 have hz3:V3.heap.size=w3.heap.size+1:=by rw[hV3];simp
 have KC:=hh_ (EdgesOf_s s3 B3 m3 d3 x3 V3 w3.heap.size (hR3.keep hb3 nr_) (by omega) (by omega));replace HD:=hh_ (HD.trans (Dr.of HD.cu hb3));replace HR0:=hh_ (HR0.keep hb3);replace HR1:=hh_ (HR1.keep hb3);replace HG:=hh_ (HG.keep hb3);replace HH:=hh_ (HH.keep hb3);replace HO:=hh_ (HO.keepB hb3 (by omega));replace HP:=hh_ (HP.keepB hb3 (by omega));have HV3:=hh_ hV3;rename∀(a:Act) (w':World),_->_=>hK
 refine hK _ _ ?_;clear hK hR3 hV3 hb3;go_wp2_with fail
 rw[<-HV3.out];clear HV3;refine KC.mono ?_;rintro e w4 ⟨B4,d4,D,rfl,hDl,hoD,hb⟩;replace HD:=hh_ (HD.trans (Dr.of HD.cu hb));replace HR0:=hh_ (HR0.keep hb);replace HR1:=hh_ (HR1.keep hb);replace HG:=hh_ (HG.keep hb);replace HH:=hh_ (HH.keep hb);replace HO:=hh_ (HO.keepB hb (by omega));replace HP:=hh_ (HP.keepB hb (by omega));have HQ:=hh_ hoD;have Hat:Hid (∀k,k<D.length-> ∃Ad cd v u,D[k]? =some (Ad,cd,[((v:Nat):Int),((u:Nat):Int)])):=fun k hk=>by
  obtain⟨Ad,cd,v,u,h,_⟩:=edge_at hDl hk;exact⟨Ad,cd,v,u,h⟩
 have hl21:=edges_len hDl;have hl4:=hb.size;clear hb hoD hDl KC;rename∀(a:Act) (w':World),_->_=>hK
 refine hK _ _ ?_;clear hK;have hlo:w.heap.size+2<=w1.heap.size:=by omega
 have hD4:w1.heap.size<w4.heap.size:=by omega
 have hD5:w2.heap.size<w4.heap.size:=by omega
 go_wp2;go_loopw [9] (fun i wr=> ∃(k:Nat) (B':Option Addr) (d' l1 h1:Nat) (x':Nat->Int),k<=D.length/\i=.int .i64 k/\Hid (GC wr w2.heap.size sz B' m d')/\Hid (Own wr l1 h1 3 1 B' m d' (fun j=> .int .i64 (x' j)))/\w.heap.size+2<=l1/\(h1<=w2.heap.size\/w2.heap.size+1<=l1)/\h1<=wr.heap.size/\w4.heap.size<=wr.heap.size/\Hid (OwnD wr V3.heap.size w4.heap.size B4 d4 D)/\Hid (GC wr w.heap.size 0 none 0 0)/\Hid (GC wr (w.heap.size+1) 0 none 0 0)/\Hid (GC wr w1.heap.size sz B m d)/\Hid (Own wr W.heap.size w1.heap.size 3 1 B m d (fun j=> .int .i64 (x j)))/\Hid (Dr w q A nb cb wr)) (fun i _=>D.length-(intOf i).toNat);case atStart=>exact⟨0,B2,d2,_,_,_,Nat.zero_le _,rfl,HH,HP,by omega,.inl (by omega),by omega,nr_,HQ,HR0,HR1,HG,HO,HD⟩
 case round=>
  clear HH HP HQ HR0 HR1 HG HO HD;obtain⟨k,B',d',l1,h1,x',hk,rfl,HU,HP,hl1,hh1,hh2,hwr,HQ,HR0,HR1,HG,HO,HD⟩:=hrel;by_cases hgo:k<D.length/\b=true
  ·obtain⟨hkl,rfl⟩:=hgo;have i1:(k:Int)<D.length:=by omega
   have KB:=hh_ (l1Once_s (k:=3) HD.cu (by omega) (by omega));go_wp2_with fail
   refine KB.mono ?_;rintro e w5 ⟨y,rfl,hd⟩;have hq5:=HD.cu.lt;replace HD:=hh_ (HD.trans hd);replace HU:=hh_ (HU.keepF hd.fr (.inr (by omega)));replace HR0:=hh_ (HR0.keepF hd.fr (.inr (by omega)));replace HR1:=hh_ (HR1.keepF hd.fr (.inr (by omega)));replace HG:=hh_ (HG.keepF hd.fr (.inr (by omega)));replace HO:=hh_ (HO.keep hd.fr (.inr (by omega)));replace HP:=hh_ (HP.keep hd.fr (.inr (by omega)));replace HQ:=hh_ (HQ.keep hd.fr (.inr (by omega)));have hl5:=hd.fr.size;clear hd KB;cases y
   ·go_wp2;go_roundw;case rel=>exact⟨k+1,B',d',l1,h1,x',by omega,by go_num,HU,HP,hl1,hh1,by omega,by omega,HQ,HR0,HR1,HG,HO,HD⟩
    case measure=>simp[intOf]<;>omega
   ·obtain⟨Ad,cd,v,u,hdk⟩:=Hat.out k hkl;obtain⟨g,gd,rfl,rfl,p0,p1,p2,hgh,hdh⟩:=HQ.pairL hdk;have KD:Hid (Calls Tryz.prog 91 #[.agg #[.int .i64 sz,.slice B' m d'],.int .i64 (v:Nat),.int .i64 (u:Nat)] w5.drew fun e w'=> ∃(A2:Option Addr) (c2:Nat) (t2:Bool) (y2:Nat->Int),e=.returned (.tuple #[.agg #[.int .i64 sz,.slice A2 m c2],.bool t2])/\Own w' (w5.heap.size+2) w'.heap.size 3 1 A2 m c2 (fun j=> .int .i64 (y2 j))/\Below w5.heap.size w5.drew w'):=by
     refine(AddEdge_s sz B' m d' x' v u w5.drew h1 HP.drew.rd (by show h1<=w5.heap.size;omega) (by omega)).mono ?_;rintro e w' ⟨A2,c2,h3,h4,h5⟩;exact⟨A2,c2,_,_,h3,h4,h5⟩
    have hgl:=World.block_lt_of_cell? _ _ p0;have hdl:=World.block_lt_of_cell? _ _ p1;have e0:=HU.c0;have e1:=HU.c1;have ns1:g<w2.heap.size\/w2.heap.size+1<=g:=.inr (by omega);have ns2:gd<w2.heap.size\/w2.heap.size+1<=gd:=.inr (by omega);go_wp2;refine wp_region_held_drew (S:=fun z=>z.cell? ⟨g,k,none⟩=some (.slice (some ⟨gd,0,none⟩) 2 cd)/\z.cell? ⟨gd,0,none⟩=some (.int .i64 v)/\z.cell? ⟨gd,1,none⟩=some (.int .i64 u)) (by kernel_rfl) ⟨p0,p1,p2⟩ (fun hHeld=> ?_);refine pcY 1 ?_;iterate 11 (refine ptY ?_)
    refine w1H 0 (fun K hK=> ?_);go_simp;refine hK.out _ _ ⟨p0,p1,p2⟩ (fun hHeld=> ?_);clear hK K;try simp only[Act.put,sl0,sl1,sl2]
    refine w1H 13 (fun K hK=> ?_);go_simp;go_at_call 91;refine(KD.out).mono ?_
    rintro e w6 ⟨A6,c6,t6,y6,rfl,ho6,hb6⟩;have HU6:=hh_ (HU.drew.keep hb6);have q0:=HU6.c0;have q1:=HU6.c1;have q2:=HU6.f0;have q3:=HU6.f1;have F6:=fr2 w6 w2.heap.size (.int .i64 sz) (.slice A6 m c6);have S6:w6.cell? ⟨g,k,none⟩=some (.slice (some ⟨gd,0,none⟩) 2 cd)/\w6.cell? ⟨gd,0,none⟩=some (.int .i64 v)/\w6.cell? ⟨gd,1,none⟩=some (.int .i64 u):=⟨up hb6 p0 hgl,up hb6 p1 hdl,up hb6 p2 hdl⟩;have hz6:w5.heap.size<=w6.heap.size:=hb6.size;refine hK.out _ _ S6 (fun hHeld=> ?_);clear hK K;try simp only[Act.put,sl0,sl1,sl2]
    iterate 3 (refine ptY ?_)
    refine w1H 17 (fun K hK=> ?_);go_simp;refine hK.out _ _ ⟨frC_ F6 S6.1 (by omega) ns1,frC_ F6 S6.2.1 (by omega) ns2,frC_ F6 S6.2.2 (by omega) ns2⟩ (fun hHeld=> ?_);clear hK K;try simp only[Act.put,sl0,sl1,sl2]
    refine wpAnyH_done (by kernel_rfl) ?_ _;obtain⟨W7,hW7⟩: ∃W7,W7=((w6.setCell ⟨w2.heap.size,0,none⟩ (.int .i64 sz)).setCell ⟨w2.heap.size,1,none⟩ (.slice A6 m c6)):=⟨_,rfl⟩;rw[<-hW7] at F6 ⊢;have HU7:Hid (GC W7 w2.heap.size sz A6 m c6):=by rw[hW7];exact HU6.set
    have HP7:Hid (Own W7 (w5.heap.size+2) w6.heap.size 3 1 A6 m c6 (fun j=> .int .i64 (y6 j))):=ho6.keep F6 (.inr (by omega));have HQ7:Hid (OwnD W7 V3.heap.size w4.heap.size (some ⟨g,0,none⟩) d4 D):=(HQ.drew.keepB hb6 (by omega)).keep F6 (.inr (by omega));have HR07:Hid (GC W7 w.heap.size 0 none 0 0):=(HR0.drew.keep hb6).keepF F6 (.inl (by omega));have HR17:Hid (GC W7 (w.heap.size+1) 0 none 0 0):=(HR1.drew.keep hb6).keepF F6 (.inl (by omega));have HG7:Hid (GC W7 w1.heap.size sz B m d):=(HG.drew.keep hb6).keepF F6 (.inl (by omega));have HO7:Hid (Own W7 W.heap.size w1.heap.size 3 1 B m d (fun j=> .int .i64 (x j))):=(HO.drew.keepB hb6 (by show w1.heap.size<=w5.heap.size;omega)).keep F6 (.inl (by omega));have hb6':Below w5.heap.size w5 w6:=⟨hb6.os,hb6.tape,hb6.output,hb6.size,hb6.block⟩;have HD7:Hid (Dr w q A nb cb W7):=⟨(HD.cu.keep hb6').keepF F6 (by omega),(HD.fr.trans (Fr.of_below hb6')).past F6 (by omega)⟩
    have hz7:=F6.size;clear hW7 ho6 hb6 hb6' KD e0 e1 p0 p1 p2 HU HP HQ HR0 HR1 HG HO HD HU6 F6 S6 q0 q1 q2 q3;go_wp2;go_roundw;case rel=>exact⟨k+1,A6,c6,w5.heap.size+2,w6.heap.size,y6,by omega,by go_num,HU7,HP7,by omega,.inr (by omega),hz7,by omega,HQ7,HR07,HR17,HG7,HO7,HD7⟩
    case measure=>simp[intOf]<;>omega
  ·have KB:=hh_ (l1Once_s (k:=10) HD.cu (by omega) (by omega));have hcase:(k<D.length/\b=false)\/D.length<=k:=by
    cases b
    ·by_cases hkl:k<D.length
     ·exact .inl ⟨hkl,rfl⟩
     ·exact .inr (by omega)
    ·refine .inr (Nat.le_of_not_lt fun hkl=>hgo ⟨hkl,rfl⟩)
   clear hgo;rcases hcase with ⟨hkl,rfl⟩|hkl
   ·have i1:(k:Int)<D.length:=by omega
    go_wp2_with fail
    refine KB.mono ?_;rintro e w9 ⟨y,rfl,hd⟩;have hq5:=HD.cu.lt;replace HD:=hh_ (HD.trans hd);replace HU:=hh_ (HU.keepF hd.fr (.inr (by omega)));replace HR0:=hh_ (HR0.keepF hd.fr (.inr (by omega)));replace HR1:=hh_ (HR1.keepF hd.fr (.inr (by omega)));replace HG:=hh_ (HG.keepF hd.fr (.inr (by omega)));replace HO:=hh_ (HO.keep hd.fr (.inr (by omega)));replace HP:=hh_ (HP.keep hd.fr (.inr (by omega)));have hz9:=hd.fr.size;clear hd KB HQ;rename∀(a:Act) (w':World),_->_=>hK
    refine hK _ _ ?_;clear hK;have HF1:=hh_ (fun (W9:World) (F:Fr w.heap.size (w.heap.size+2) w9 W9)=>pgQ.fin (s1:=sz) (s2:=sz) HD.out hql F ⟨hm1,hm7⟩ ⟨hm1,hm7⟩ HP.out HO.out hl1 (by omega) (by omega) (by omega));have HF2:=hh_ (fun (W9:World) (F:Fr w.heap.size (w.heap.size+2) w9 W9)=>pgQ.fin (s1:=sz) (s2:=sz) HD.out hql F ⟨hm1,hm7⟩ ⟨hm1,hm7⟩ HO.out HP.out (by omega) hl1 (by omega) (by omega));have e0:=HU.c0;have e1:=HU.c1;have e2:=HG.c0;have e3:=HG.c1;have r0:=HR0.c0;have r1:=HR0.c1;have r2:=HR0.f0;have r3:=HR0.f1;have s0:=HR1.c0;have s1:=HR1.c1;have s2:=HR1.f0;have s3:=HR1.f1;have j1:(w.heap.size=w2.heap.size)=False:=by simp;omega
    have j2:(w2.heap.size=w.heap.size)=False:=by simp;omega
    have j3:(w.heap.size+1=w2.heap.size)=False:=by simp;omega
    have j4:(w2.heap.size=w.heap.size+1)=False:=by simp;omega
    have j5:(w.heap.size=w1.heap.size)=False:=by simp;omega
    have j6:(w1.heap.size=w.heap.size)=False:=by simp;omega
    have j7:(w.heap.size+1=w1.heap.size)=False:=by simp;omega
    have j8:(w1.heap.size=w.heap.size+1)=False:=by simp;omega
    cases y
    ·go_wp2;go_region
     all_goals go_wp2
     all_goals exact bodyPost_ret (v:=.tuple #[.agg #[.int .i64 sz,.slice B m d],.agg #[.int .i64 sz,.slice B' m d']]) (by simp[results,Tryz.results42,go_sem, *]) rfl (HF2.out _ ((fr4 _ _ _ _ _ _).drewN _))
    ·go_wp2;go_region
     all_goals go_wp2
     all_goals exact bodyPost_ret (v:=.tuple #[.agg #[.int .i64 sz,.slice B' m d'],.agg #[.int .i64 sz,.slice B m d]]) (by simp[results,Tryz.results42,go_sem, *]) rfl (HF1.out _ ((fr4 _ _ _ _ _ _).drewN _))
   ·have i1:(D.length:Int)<=(k:Int):=by omega
    go_wp2_with fail
    refine KB.mono ?_;rintro e w9 ⟨y,rfl,hd⟩;have hq5:=HD.cu.lt;replace HD:=hh_ (HD.trans hd);replace HU:=hh_ (HU.keepF hd.fr (.inr (by omega)));replace HR0:=hh_ (HR0.keepF hd.fr (.inr (by omega)));replace HR1:=hh_ (HR1.keepF hd.fr (.inr (by omega)));replace HG:=hh_ (HG.keepF hd.fr (.inr (by omega)));replace HO:=hh_ (HO.keep hd.fr (.inr (by omega)));replace HP:=hh_ (HP.keep hd.fr (.inr (by omega)));have hz9:=hd.fr.size;clear hd KB HQ;rename∀(a:Act) (w':World),_->_=>hK
    refine hK _ _ ?_;clear hK;have HF1:=hh_ (fun (W9:World) (F:Fr w.heap.size (w.heap.size+2) w9 W9)=>pgQ.fin (s1:=sz) (s2:=sz) HD.out hql F ⟨hm1,hm7⟩ ⟨hm1,hm7⟩ HP.out HO.out hl1 (by omega) (by omega) (by omega));have HF2:=hh_ (fun (W9:World) (F:Fr w.heap.size (w.heap.size+2) w9 W9)=>pgQ.fin (s1:=sz) (s2:=sz) HD.out hql F ⟨hm1,hm7⟩ ⟨hm1,hm7⟩ HO.out HP.out (by omega) hl1 (by omega) (by omega));have e0:=HU.c0;have e1:=HU.c1;have e2:=HG.c0;have e3:=HG.c1;have r0:=HR0.c0;have r1:=HR0.c1;have r2:=HR0.f0;have r3:=HR0.f1;have s0:=HR1.c0;have s1:=HR1.c1;have s2:=HR1.f0;have s3:=HR1.f1;have j1:(w.heap.size=w2.heap.size)=False:=by simp;omega
    have j2:(w2.heap.size=w.heap.size)=False:=by simp;omega
    have j3:(w.heap.size+1=w2.heap.size)=False:=by simp;omega
    have j4:(w2.heap.size=w.heap.size+1)=False:=by simp;omega
    have j5:(w.heap.size=w1.heap.size)=False:=by simp;omega
    have j6:(w1.heap.size=w.heap.size)=False:=by simp;omega
    have j7:(w.heap.size+1=w1.heap.size)=False:=by simp;omega
    have j8:(w1.heap.size=w.heap.size+1)=False:=by simp;omega
    cases y
    ·go_wp2;go_region
     all_goals go_wp2
     all_goals exact bodyPost_ret (v:=.tuple #[.agg #[.int .i64 sz,.slice B m d],.agg #[.int .i64 sz,.slice B' m d']]) (by simp[results,Tryz.results42,go_sem, *]) rfl (HF2.out _ ((fr4 _ _ _ _ _ _).drewN _))
    ·go_wp2;go_region
     all_goals go_wp2
     all_goals exact bodyPost_ret (v:=.tuple #[.agg #[.int .i64 sz,.slice B' m d'],.agg #[.int .i64 sz,.slice B m d]]) (by simp[results,Tryz.results42,go_sem, *]) rfl (HF1.out _ ((fr4 _ _ _ _ _ _).drewN _))
end
end Go.Proofs.YtfabbohijhjpcaaGreatDoor
