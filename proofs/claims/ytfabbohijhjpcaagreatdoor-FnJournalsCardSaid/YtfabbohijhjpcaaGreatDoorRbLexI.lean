/- Lemmas. -/
import Derived.Test.YtfabbohijhjpcaaGreatDoorRbOrlI
/-
-/
namespace Go.Proofs.YtfabbohijhjpcaaGreatDoor
open Go.RowKit
set_option maxHeartbeats 1000000
theorem red_elim {r:Nat->Nat}: ∀(S:Nat),(redL (firstS r) S).isSome=elimB r S:=by
 intro S;induction S using Nat.strongRecOn with
 |ind S ih=>
  by_cases h0:S=0
  ·subst h0;rw[redL_zero,elimB_zero];rfl
  ·cases hf:firstS r S with
   |none=>rw[redL_none h0 hf,elimB_none h0 hf];rfl
   |some v=>
    have hb:=(firstS_bit hf).2;rw[elimB_some hf,<-ih _ (xor_bit_lt hb),redL_some hb hf,Option.isSome_map]
theorem orG_chB {sz:Int} {m:Nat} {x:Nat->Int}:(orG firstS sz m x).isSome=chB sz m x:=by
 unfold orG chB;cases h:okB sz m x
 ·rfl
 ·rw[if_pos rfl,red_elim];rfl
theorem EliminationOf_ix (sz:Int) (A:Option Addr) (m c:Nat) (x:Nat->Int) (w:World) (B:Nat) (h:Rd w B A m c x) (hB:B<=w.heap.size) (hm:m<=1048576):
 Calls Tryz.prog 161 #[.agg #[.int .i64 sz,.slice A m c]] w fun e w'=> ∃A' n' c',e=.returned (.tuple #[.slice A' n' c',.bool (chB sz m x)])/\Below w.heap.size w w':=
 (EliminationOf_il sz A m c x w B h hB hm).mono fun e w' ⟨A',c',he,_,hb⟩=>⟨A',_,c',by rw[<-orG_chB];exact he,hb⟩
theorem IsChordal_ix (sz:Int) (A:Option Addr) (m c:Nat) (x:Nat->Int) (w:World) (B:Nat) (h:Rd w B A m c x) (hB:B<=w.heap.size) (hm:m<=1048576):
 Calls Tryz.prog 98 #[.agg #[.int .i64 sz,.slice A m c]] w fun e w'=>e=.returned (.bool (chB sz m x))/\Below w.heap.size w w':=by
 obtain⟨W,hW⟩: ∃W,W=(w.alloc (Obj.cells #[.int .i64 sz,.slice A m c] 26)):=⟨_,rfl⟩;have HB:Hid (Below w.heap.size w W):=by rw[hW];exact(br_.alloc nr_ _)
 have a0:w.heap.size<W.heap.size:=by rw[hW];simp
 have HK:=hh_ (h.keep (HB.mono hB) nr_);have HW:=hh_ hW;clear hW h;go_enter Tryz.func98,Tryz.ntmps98;go_wp2_with fail
 rw[<-HW.out];clear HW;refine(EliminationOf_ix sz A m c x W B HK (by omega) hm).mono ?_;rintro e w1 ⟨A',n',c',rfl,hb1⟩;have HB1:Hid (Below w.heap.size w w1):=HB.trans (hb1.mono (by omega));clear hb1 HK HB;go_wp2;go_ret;exact⟨rfl,HB1⟩
set_option maxHeartbeats 1600000
def slO (r:Nat->Nat) (m:Nat):Option Nat:=lsK (splB r m) (2^m)
noncomputable def slB (sz:Int) (m:Nat) (x:Nat->Int):Bool:=okB sz m x&&(slO (rw_ x) m).isSome
theorem slB_no {sz:Int} {m:Nat} {x:Nat->Int} (h:okB sz m x=false):slB sz m x=false:=by unfold slB;rw[h];rfl
theorem slB_yes {sz:Int} {m:Nat} {x:Nat->Int} (h:okB sz m x=true):slB sz m x=(slO (rw_ x) m).isSome:=by unfold slB;rw[h];rfl
section
variable {A:Option Addr} {m c:Nat} {r:Nat->Nat}
theorem SplitOf_v {w:World} (h:GV w A m c r):
 Calls Tryz.prog 164 #[.agg #[.int .i64 m,.slice A m c]] w fun e w'=>e=.returned (lsV (slO r m))/\Below w.heap.size w w':=by
 obtain⟨W,hW,HB,HG⟩:=gbW h;have HW:=hh_ hW;clear hW h;obtain⟨e0,e1⟩:=gx_ HG;go_enter Tryz.func164,Tryz.ntmps164;go_wp2_with fail
 rw[<-HW.out];refine(least_g (p:=splB r m) (caps:= #[]) (ent_of Tryz.func243 (by kernel_rfl) rfl) W HG.gv (fun s z hs hb=>IsSplitPartition_v (HG.gv.keep hb) hs)).mono ?_;rintro e w1 ⟨rfl,hb1⟩;clear HW;clear e0 e1;obtain⟨HB,HG,e0,e1⟩:=kG_ HB HG hb1;clear hb1;have HS:Hid (slO r m=lsK (splB r m) (2^m)):=rfl;rw[<-HS.out];cases hso:slO r m with
 |none=>
  have Hn:=hh_ hso;clear hso;rw[lsV_none];go_wp2;go_ret2;exact⟨by rw[Hn.out];rfl,HB.below⟩
 |some k=>
  have Hn:=hh_ hso;clear hso;rw[lsV_some];go_wp2;go_ret2;exact⟨by rw[Hn.out];rfl,HB.below⟩
end
section
variable (sz:Int) (A:Option Addr) (m c:Nat) (x:Nat->Int) (w:World)
theorem SplitOf_no (h:GA w A m c x) (hm:m<=1048576) (hok:okB sz m x=false):
 Calls Tryz.prog 164 #[.agg #[.int .i64 sz,.slice A m c]] w fun e w'=>e=.returned (lsV none)/\Below w.heap.size w w':=by
 obtain⟨W,hW,HB,HK,HC⟩:=gaW sz h;have HW:=hh_ hW;have KF:=hh_ (least_no (f:=.func (.func 243) #[] #[]) HK hm hok);clear hW h hok;go_enter Tryz.func164,Tryz.ntmps164;obtain⟨e0,e1⟩:=gc_ HC;go_wp2_with fail
 rw[<-HW.out];refine(KF.out).mono ?_;rintro e w1 ⟨rfl,hb1⟩;clear HW;clear e0 e1;obtain⟨HB,HK,HC,e0,e1⟩:=kC_ HB HK HC hb1;clear hb1;clear KF;rw[lsV_none];go_wp2;go_ret2;exact⟨rfl,HB.below⟩
set_option maxRecDepth 100000 in
theorem IsSplit_i (h:GA w A m c x) (hm:m<=1048576):
 Calls Tryz.prog 102 #[.agg #[.int .i64 sz,.slice A m c]] w fun e w'=>e=.returned (.bool (slB sz m x))/\Below w.heap.size w w':=by
 obtain⟨W,hW,HB,HK,HC⟩:=gaW sz h;have HW:=hh_ hW;clear hW h;go_enter Tryz.func102,Tryz.ntmps102;cases ho:okB sz m x
 ·have Hn:Hid (slB sz m x=false):=slB_no ho;have KF:=hh_ (SplitOf_no sz A m c x W HK hm ho);clear ho;obtain⟨e0,e1⟩:=gc_ HC;go_wp2_with fail
  rw[<-HW.out];refine(KF.out).mono ?_;rintro e w1 ⟨rfl,hb1⟩;clear HW;clear e0 e1;obtain⟨HB,HK,HC,e0,e1⟩:=kC_ HB HK HC hb1;clear hb1;clear KF;rw[lsV_none];go_wp2;go_ret;exact⟨ret_bool Hn.symm,HB.below⟩
 obtain⟨_,es,_,_⟩:=okB_ok' ho;subst es;have Hn:Hid (slB (m:Int) m x=(slO (rw_ x) m).isSome):=slB_yes ho;have HG:Hid (GBox W w.heap.size A m c (rw_ x)):=⟨HK.gv ho,HC.c0,HC.c1,HC.lt⟩;have KF:=hh_ (SplitOf_v HG.gv);obtain⟨o,ho2⟩: ∃o,o=slO (rw_ x) m:=⟨_,rfl⟩;rw[<-ho2] at Hn KF;clear ho ho2 HC HK;cases o
 ·skip;obtain⟨e0,e1⟩:=gx_ HG;go_wp2_with fail
  rw[<-HW.out];refine(KF.out).mono ?_;rintro e w2 ⟨rfl,hb2⟩;clear HW;clear e0 e1;obtain⟨HB,HG,e0,e1⟩:=kG_ HB HG hb2;clear hb2;clear KF;rw[lsV_none];go_wp2;go_ret;exact⟨ret_bool Hn.symm,HB.below⟩
 ·skip;obtain⟨e0,e1⟩:=gx_ HG;go_wp2_with fail
  rw[<-HW.out];refine(KF.out).mono ?_;rintro e w3 ⟨rfl,hb3⟩;clear HW;clear e0 e1;obtain⟨HB,HG,e0,e1⟩:=kG_ HB HG hb3;clear hb3;clear KF;rw[lsV_some];go_wp2;go_ret;exact⟨ret_bool Hn.symm,HB.below⟩
end
set_option maxHeartbeats 1600000
noncomputable def ptB (r:Nat->Nat) (m:Nat) (l:List Nat):Bool:=ipB (m:Int) m (fun v=>(r v:Int)) (l.map fun v:Nat=>(v:Int))
theorem nodup_cast {l:List Nat} (h:(l.map fun v:Nat=>(v:Int)).Nodup):l.Nodup:=by
 induction l with
 |nil=>exact List.nodup_nil
 |cons a l ih=>
  rw[List.map_cons,List.nodup_cons] at h;rw[List.nodup_cons];exact⟨fun ha=>h.1 (List.mem_map_of_mem ha),ih h.2⟩
theorem ptB_dup {r:Nat->Nat} {m:Nat} {l:List Nat} (h: ¬l.Nodup):ptB r m l=false:=by
 unfold ptB ipB;rw[ajB_bad (by unfold vrB;rw[vzB_no (fun hv=>h (nodup_cast hv.1)),Bool.and_false]),Bool.and_false]
noncomputable def ptO (r:Nat->Nat) (m n:Nat):Option (List Nat):=if n<=m then seaG m (ptB r m) (fun _=>true) n [] else none
theorem ptO_yes {r:Nat->Nat} {m n:Nat} (h:n<=m):ptO r m n=seaG m (ptB r m) (fun _=>true) n []:=by unfold ptO;rw[if_pos h]
theorem ptO_no {r:Nat->Nat} {m n:Nat} (h: ¬n<=m):ptO r m n=none:=by unfold ptO;rw[if_neg h]
noncomputable def cgB (sz:Int) (m:Nat) (x:Nat->Int):Bool:=okB sz m x&& !(ptO (rw_ x) m 4).isSome
theorem cgB_no {sz:Int} {m:Nat} {x:Nat->Int} (h:okB sz m x=false):cgB sz m x=false:=by unfold cgB;rw[h];rfl
theorem cgB_yes {sz:Int} {m:Nat} {x:Nat->Int} (h:okB sz m x=true):cgB sz m x= !(ptO (rw_ x) m 4).isSome:=by unfold cgB;rw[h];rfl
section
variable {A:Option Addr} {m c:Nat} {r:Nat->Nat}
theorem IsInducedPath_v {w:World} (h:GV w A m c r) {Al:Option Addr} {cl:Nat} {l:List Nat} (hl:LN w Al cl l) (hlen:l.length<=7):
 Calls Tryz.prog 202 #[.agg #[.int .i64 m,.slice A m c],.slice Al l.length cl] w fun e w'=>e=.returned (.bool (ptB r m l))/\Below w.heap.size w w':=
 IsInducedPath_i m A m c _ Al l.length cl _ w h.ga hl.li (by have:=h.vg.n7;omega) (by omega)
set_option maxRecDepth 100000 in
theorem PthF {q:Nat} {Al:Option Addr} {cl:Nat} {l:List Nat} {w:World} (h:GBox w q A m c r) (hl:LN w Al cl l) (hlen:l.length<=7):
 Calls Tryz.prog 288 #[.slice Al l.length cl,.pointer (some ⟨q,0,none⟩)] w fun e w'=>e=.returned (.bool (ptB r m l))/\Below w.heap.size w w':=by
 have KP:=hh_ (IsInducedPath_v h.gv hl hlen);have e0:=h.c0;have e1:=h.c1;have HF:Hid (From w w):=From.refl w;clear h hl;go_enter Tryz.func288,Tryz.ntmps288;go_wp2_with fail
 refine KP.mono ?_;rintro e w1 ⟨rfl,hb1⟩;replace HF:=hh_ (HF.keep hb1);clear hb1;go_wp2;go_ret;exact⟨rfl,HF.below⟩
set_option maxRecDepth 100000 in
theorem FindInducedPath_v {w:World} (h:GV w A m c r) {n:Nat} (hn:1<=n) (hn7:n<=7):Calls Tryz.prog 208 #[.agg #[.int .i64 m,.slice A m c],.int .i64 n] w (lsQ w (ptO r m n)):=by
 have hm1:=h.vg.n1;have hm7:=h.vg.n7;obtain⟨W,hW,HB,HG⟩:=gbW h;have HW:=hh_ hW;clear hW h;obtain⟨e0,e1⟩:=gx_ HG;have HG0:=HG;by_cases hnm:n<=m
 ·have HO:Hid (ptO r m n=seaG m (ptB r m) (fun _=>true) n []):=ptO_yes hnm;have KF:=hh_ (firstList_g (m:=m) (n:=n) (A:=A) (c:=c) (r:=r) (fm:=288) (cm:= #[.pointer (some ⟨w.heap.size,0,none⟩)]) (fh:=210) (ch:= #[]) (may:=ptB r m) (hol:=fun _=>true) (lo:=W.heap.size) (hi:=W.heap.size) (J:=fun _ z=>GBox z w.heap.size A m c r)
   (ent_of Tryz.func288 (by kernel_rfl) rfl) (ent_of Tryz.func210 (by kernel_rfl) rfl) W HG0.gv hn nr_ (fun _ z z' hz hb=>hz.keep hb) HG0.out
   (fun _ l A' c' z hz hr _ hv hn=>PthF hz ⟨hr⟩ (by have:=nodup_len hn hv;omega))
   (fun _ l A' c' z hz _ _ _ _=>(always_n A' l.length c' z).mono fun e w' ⟨h1,h2⟩=>⟨h1,hz.keep h2,Fr.of_below h2⟩))
  obtain⟨o,ho⟩: ∃o,o=ptO r m n:=⟨_,rfl⟩;rw[<-ho] at HO ⊢;rw[<-HO.out] at KF;clear ho HO;have i1:(1:Int)<=n:=by omega
  have i2:(n:Int)<=m:=by omega
  go_enter Tryz.func208,Tryz.ntmps208;obtain⟨e0,e1⟩:=gx_ HG;go_wp2_with (go_at_call 60;refine(within_yes _ _ _ _ i1 i2).mono ?_;rintro e w' ⟨rfl,rfl⟩)
  rw[<-HW.out];clear HW;refine KF.mono ?_;rintro e w1 ⟨hf,hp⟩;have HB1:Hid (Below w.heap.size w w1):=HB.below.trans (hf.below HB.below.size HB.below.size);have HZ:Hid (w.heap.size<=W.heap.size):=HB.below.size;clear hf KF HG e0 e1;cases o with
  |none=>
   obtain⟨rfl,_⟩:=hp;go_wp2;go_ret2;exact lsQ.no HB1.out
  |some l=>
   obtain⟨g,c',rfl,hO⟩:=hp;have HL:Hid (ON w.heap.size w1 (some ⟨g,0,none⟩) c' l):=⟨hO.mono HZ.out nr_⟩;clear hO;go_wp2;go_ret2;exact lsQ.yes HL.out HB1.out
 ·have HO:Hid (ptO r m n=none):=ptO_no hnm;have i2:(m:Int)<n:=by omega
  go_enter Tryz.func208,Tryz.ntmps208;go_wp2_with (go_at_call 60;refine(within_no _ _ _ _ (.inr i2)).mono ?_;rintro e w' ⟨rfl,rfl⟩)
  rw[<-HW.out];go_ret2;rw[HO.out];exact lsQ.no HB.below
theorem FindPathOfFour_v {w:World} (h:GV w A m c r):Calls Tryz.prog 138 #[.agg #[.int .i64 m,.slice A m c]] w (lsQ w (ptO r m 4)):=by
 obtain⟨W,hW,HB,HG⟩:=gbW h;have HW:=hh_ hW;clear hW h;obtain⟨e0,e1⟩:=gx_ HG;have KF:=hh_ (FindInducedPath_v HG.gv (n:=4) (by omega) (by omega));have HZ:Hid (w.heap.size<=W.heap.size):=HB.below.size;go_enter Tryz.func138,Tryz.ntmps138;go_wp2_with fail
 rw[<-HW.out];refine(KF.out).mono ?_;rintro e w1 ⟨A',c',rfl,ho,hb1⟩;clear HW;replace HB:=hh_ (HB.keep hb1);clear hb1;have HO:=hh_ ho;clear ho;go_wp2;go_ret2;exact⟨_,_,rfl,HO.mono HZ.out,HB.below⟩
end
section
variable (sz:Int) (A:Option Addr) (m c:Nat) (x:Nat->Int) (w:World)
set_option maxRecDepth 100000 in
theorem FindInducedPath_no (n:Nat) (h:GA w A m c x) (hm:m<=1048576) (hok:okB sz m x=false):
 Calls Tryz.prog 208 #[.agg #[.int .i64 sz,.slice A m c],.int .i64 n] w (lsQ w none):=by
 obtain⟨W,hW,HB,HK,HC⟩:=gaW sz h;have HW:=hh_ hW;have KF:=hh_ (firstList_noG (n:=(n:Int)) (fm:=288) (cm:= #[.pointer (some ⟨w.heap.size,0,none⟩)]) (fh:=210) (ch:= #[]) HK hm hok);clear hW h hok;by_cases hin:1<=(n:Int)/\(n:Int)<=sz
 ·obtain⟨i1,i2⟩:=hin;go_enter Tryz.func208,Tryz.ntmps208;obtain⟨e0,e1⟩:=gc_ HC;go_wp2_with (go_at_call 60;refine(within_yes _ _ _ _ i1 i2).mono ?_;rintro e w' ⟨rfl,rfl⟩)
  rw[<-HW.out];clear HW;refine KF.mono ?_;rintro e w1 ⟨rfl,hb1⟩;clear e0 e1;replace HB:=hh_ (HB.keep hb1);replace HK:=hh_ (HK.keep hb1);replace HC:=hh_ (HC.keep hb1);clear hb1 KF;obtain⟨e0,e1⟩:=gc_ HC;go_wp2;go_ret2;exact lsQ.no HB.below
 ·have hin2:(n:Int)<1\/sz<(n:Int):=by omega
  clear hin;go_enter Tryz.func208,Tryz.ntmps208;obtain⟨e0,e1⟩:=gc_ HC;go_wp2_with (go_at_call 60;refine(within_no _ _ _ _ hin2).mono ?_;rintro e w' ⟨rfl,rfl⟩)
  rw[<-HW.out];go_ret2;exact lsQ.no HB.below
theorem FindPathOfFour_no (h:GA w A m c x) (hm:m<=1048576) (hok:okB sz m x=false):
 Calls Tryz.prog 138 #[.agg #[.int .i64 sz,.slice A m c]] w (lsQ w none):=by
 obtain⟨W,hW,HB,HK,HC⟩:=gaW sz h;have HW:=hh_ hW;have KF:=hh_ (FindInducedPath_no sz A m c x W 4 HK hm hok);clear hW h hok;have HZ:Hid (w.heap.size<=W.heap.size):=HB.below.size;go_enter Tryz.func138,Tryz.ntmps138;obtain⟨e0,e1⟩:=gc_ HC;go_wp2_with fail
 rw[<-HW.out];refine(KF.out).mono ?_;rintro e w1 ⟨A',c',rfl,ho,hb1⟩;clear HW;clear e0 e1;obtain⟨HB,HK,HC,e0,e1⟩:=kC_ HB HK HC hb1;clear hb1;have HO:=hh_ ho;clear ho;go_wp2;go_ret2;exact⟨_,_,rfl,HO.mono HZ.out,HB.below⟩
set_option maxRecDepth 100000 in
theorem IsCograph_i (h:GA w A m c x) (hm:m<=1048576):
 Calls Tryz.prog 101 #[.agg #[.int .i64 sz,.slice A m c]] w fun e w'=>e=.returned (.bool (cgB sz m x))/\Below w.heap.size w w':=by
 obtain⟨W,hW,HB,HK,HC⟩:=gaW sz h;have HW:=hh_ hW;clear hW h;go_enter Tryz.func101,Tryz.ntmps101;cases ho:okB sz m x
 ·have Hn:Hid (cgB sz m x=false):=cgB_no ho;have KF:=hh_ (FindPathOfFour_no sz A m c x W HK hm ho);have Ho:=hh_ ho;clear ho;obtain⟨e0,e1⟩:=gc_ HC;go_wp2_with fail
  rw[<-HW.out];refine(KF.out).mono ?_;rintro e w1 ⟨A',c',rfl,_,hb1⟩;clear HW;clear e0 e1;obtain⟨HB,HK,HC,e0,e1⟩:=kC_ HB HK HC hb1;clear hb1;clear KF;go_wp2_with fail
  refine(IsGraph_any sz A m c x w1 w1.heap.size HK.rd nr_ hm).mono ?_;rintro e w2 ⟨rfl,hb2⟩;rw[Ho.out];clear e0 e1;obtain⟨HB,HK,HC,e0,e1⟩:=kC_ HB HK HC hb2;clear hb2;go_wp2;go_ret;exact⟨ret_bool Hn.symm,HB.below⟩
 obtain⟨_,es,_,_⟩:=okB_ok' ho;subst es;have Hn:Hid (cgB (m:Int) m x= !(ptO (rw_ x) m 4).isSome):=cgB_yes ho;have HG:Hid (GBox W w.heap.size A m c (rw_ x)):=⟨HK.gv ho,HC.c0,HC.c1,HC.lt⟩;have KF:=hh_ (FindPathOfFour_v HG.gv);obtain⟨o,ho2⟩: ∃o,o=ptO (rw_ x) m 4:=⟨_,rfl⟩;rw[<-ho2] at Hn KF;clear ho ho2 HC HK;cases o
 ·skip;obtain⟨e0,e1⟩:=gx_ HG;go_wp2_with fail
  rw[<-HW.out];refine(KF.out).mono ?_;rintro e w2 ⟨A',c',rfl,_,hb2⟩;clear HW;clear e0 e1;obtain⟨HB,HG,e0,e1⟩:=kG_ HB HG hb2;clear hb2;clear KF;go_wp2_with fail
  refine(IsGraph_v HG.gv).mono ?_;rintro e w3 ⟨rfl,hb3⟩;clear e0 e1;obtain⟨HB,HG,e0,e1⟩:=kG_ HB HG hb3;clear hb3;go_wp2;go_ret;exact⟨ret_bool Hn.symm,HB.below⟩
 ·skip;obtain⟨e0,e1⟩:=gx_ HG;go_wp2_with fail
  rw[<-HW.out];refine(KF.out).mono ?_;rintro e w4 ⟨A',c',rfl,_,hb4⟩;clear HW;clear e0 e1;obtain⟨HB,HG,e0,e1⟩:=kG_ HB HG hb4;clear hb4;clear KF;go_wp2_with fail
  refine(IsGraph_v HG.gv).mono ?_;rintro e w5 ⟨rfl,hb5⟩;clear e0 e1;obtain⟨HB,HG,e0,e1⟩:=kG_ HB HG hb5;clear hb5;go_wp2;go_ret;exact⟨ret_bool Hn.symm,HB.below⟩
end
def ci (l:List Nat):List Int:=l.map fun v:Nat=>(v:Int)
def bestK (f:Nat->Nat) (p:Nat->Bool):Nat->Option Nat
 |0=>none
 |k+1=>match bestK f p k with
  |none=>if p k=true then some k else none
  |some b=>if p k=true/\f b<f k then some k else some b
theorem bestK_no {f:Nat->Nat} {p:Nat->Bool} {k:Nat} (h:p k=false):bestK f p (k+1)=bestK f p k:=by
 rw[bestK];cases bestK f p k<;>simp[h]
theorem bestK_first {f:Nat->Nat} {p:Nat->Bool} {k:Nat} (h:p k=true) (hb:bestK f p k=none):bestK f p (k+1)=some k:=by
 rw[bestK,hb];simp[h]
theorem bestK_more {f:Nat->Nat} {p:Nat->Bool} {k b:Nat} (h:p k=true) (hb:bestK f p k=some b) (hf:f b<f k):bestK f p (k+1)=some k:=by
 rw[bestK,hb];simp[h,hf]
theorem bestK_less {f:Nat->Nat} {p:Nat->Bool} {k b:Nat} (hb:bestK f p k=some b) (hf: ¬f b<f k):bestK f p (k+1)=some b:=by
 rw[bestK,hb];simp[hf]
theorem bestK_in {f:Nat->Nat} {p:Nat->Bool}: ∀ {k b:Nat},bestK f p k=some b->b<k/\p b=true:=by
 intro k;induction k with
 |zero=>intro b h;simp[bestK] at h
 |succ k ih=>
  intro b h;rw[bestK] at h;cases hb:bestK f p k with
  |none=>
   rw[hb] at h;simp only at h;split at h
   ·injection h with h;subst h;exact⟨Nat.lt_succ_self _,by assumption⟩
   ·cases h
  |some a=>
   rw[hb] at h;simp only at h;have ha:=ih hb;split at h
   ·rename_i hp;injection h with h;subst h;exact⟨Nat.lt_succ_self _,hp.1⟩
   ·injection h with h;subst h;exact⟨by omega,ha.2⟩
theorem bestK_some {f:Nat->Nat} {p:Nat->Bool}: ∀ {k v:Nat},v<k->p v=true->bestK f p k≠none:=by
 intro k;induction k with
 |zero=>intro v h;omega
 |succ k ih=>
  intro v h hp hn;by_cases hv:v<k
  ·have:=ih hv hp;rw[bestK] at hn;cases hb:bestK f p k with
   |none=>exact this hb
   |some a=>rw[hb] at hn;simp only at hn;split at hn<;>cases hn
  ·obtain rfl:v=k:=by omega
   rw[bestK] at hn;cases hb:bestK f p v with
   |none=>rw[hb] at hn;simp[hp] at hn
   |some a=>rw[hb] at hn;simp only at hn;split at hn<;>cases hn
def grN (f:List Nat->Nat->Nat) (m s:Nat):Nat->List Nat
 |0=> [s]
 |k+1=>grN f m s k++ [(bestK (f (grN f m s k)) (fun v=> !decide (v∈grN f m s k)) m).getD 0]
theorem grN_len (f:List Nat->Nat->Nat) (m s:Nat): ∀k,(grN f m s k).length=k+1
 |0=>rfl
 |k+1=>by rw[grN,List.length_append,grN_len f m s k];rfl
theorem range_nodup_sub {m:Nat} {l:List Nat} (hl:l.length<m): ∃v,v<m/\v∉l:=by
 refine Classical.byContradiction fun h=> ?_
 have h2: ∀v∈List.range m,v∈l:=fun v hv=>Classical.byContradiction fun hn=>h ⟨v,List.mem_range.1 hv,hn⟩
 have:=(List.nodup_range (n:=m)).length_le_of_subset h2;rw[List.length_range] at this;omega
theorem grN_step {f:List Nat->Nat->Nat} {m s k:Nat} (hk:k+1<m):
 ∃b,bestK (f (grN f m s k)) (fun v=> !decide (v∈grN f m s k)) m=some b/\b<m/\b∉grN f m s k/\grN f m s (k+1)=grN f m s k++ [b]:=by
 obtain⟨v,hv,hn⟩:=range_nodup_sub (l:=grN f m s k) (m:=m) (by rw[grN_len];exact hk);cases hb:bestK (f (grN f m s k)) (fun v=> !decide (v∈grN f m s k)) m with
 |none=>exact absurd hb (bestK_some hv (by simp[hn]))
 |some b=>
  have:=bestK_in hb;exact⟨b,rfl,this.1,by simpa using this.2,by rw[grN,hb];rfl⟩
theorem grN_fine {f:List Nat->Nat->Nat} {m s:Nat} (hs:s<m): ∀k,k<m->(grN f m s k).Nodup/\ ∀v∈grN f m s k,v<m:=by
 intro k;induction k with
 |zero=>intro _;exact⟨by simp[grN],fun v hv=>by simp[grN] at hv;omega⟩
 |succ k ih=>
  intro hk;obtain⟨b,_,hbm,hbn,he⟩:=grN_step (f:=f) (s:=s) hk;obtain⟨h1,h2⟩:=ih (by omega);rw[he];refine⟨?_,fun v hv=> ?_⟩
  ·rw[List.nodup_append];exact⟨h1,by simp,fun a ha c hc e=>by rw[List.mem_singleton] at hc;subst hc;subst e;exact hbn ha⟩
  ·rw[List.mem_append,List.mem_singleton] at hv;rcases hv with hv|rfl
   ·exact h2 v hv
   ·exact hbm
def labN (r:Nat->Nat) (l:List Nat) (v:Nat):Nat:=l.foldl (fun a u=>2*a+(if (r v).testBit u=true then 1 else 0)) 0
theorem labN_one (r:Nat->Nat) (l:List Nat) (u v:Nat):labN r (l++ [u]) v=2*labN r l v+(if (r v).testBit u=true then 1 else 0):=by
 unfold labN;rw[List.foldl_append];rfl
theorem labN_lt (r:Nat->Nat) (v:Nat): ∀l:List Nat,labN r l v<2^l.length:=by
 have key: ∀(n:Nat) (l:List Nat),l.length=n->labN r l v<2^n:=by
  intro n;induction n with
  |zero=>intro l hl;rw[List.length_eq_zero_iff.1 hl];simp[labN]
  |succ n ih=>
   intro l hl;have e:l.take n++ [l[n]'(by omega)]=l:=by rw[<-List.take_succ_eq_append_getElem (by omega),List.take_of_length_le (by omega)]
   have:=ih (l.take n) (by rw[List.length_take];omega);rw[<-e,labN_one,Nat.pow_succ];split<;>omega
 exact fun l=>key l.length l rfl
def lexN (r:Nat->Nat) (m s:Nat):List Nat:=grN (labN r) m s (m-1)
theorem lexN_len {r:Nat->Nat} {m s:Nat} (hm:1<=m):(lexN r m s).length=m:=by unfold lexN;rw[grN_len];omega
theorem stN_ci_bit {l:List Nat} {v:Nat}:(stN (ci l)).testBit v=decide (v∈l):=by
 rw[Bool.eq_iff_iff,decide_eq_true_eq];rw[stN_bit (fun u hu=>by unfold ci at hu;obtain⟨a,_,rfl⟩:=List.mem_map.1 hu;omega)];unfold ci;rw[List.mem_map]
 exact⟨fun ⟨a,ha,e⟩=>by have:a=v:=by omega
                        rw[<-this];exact ha,fun h=>⟨v,h,rfl⟩⟩
theorem stN_ci_lt {l:List Nat} {m:Nat} (h: ∀v∈l,v<m):stN (ci l)<2^m:=
 stN_lt (fun u hu=>by unfold ci at hu;obtain⟨a,ha,rfl⟩:=List.mem_map.1 hu;have:=h a ha;omega)
theorem stN_ci_one {l:List Nat} {b:Nat} (h:b∉l):stN (ci (l++ [b]))=stN (ci l)+2^b:=by
 have hb:(stN (ci l)).testBit b=false:=by rw[stN_ci_bit,decide_eq_false h]
 have e:ci (l++ [b])=ci l++ [(b:Int)]:=by unfold ci;rw[List.map_append];rfl
 rw[e,stN_append];show stN (ci l)|||(2^(b:Int).toNat|||0)=_;rw[Nat.or_zero,Int.toNat_natCast];exact(or_of_add hb).symm
set_option maxHeartbeats 1000000
def ivB (sz:Int) (l:List Int):Bool:=l.all fun v=>decide (0<=v/\v<sz)
theorem ivB_no {sz:Int} {l:List Int} {k:Nat} (hk:k<l.length) (h: ¬(0<=l.getD k 0/\l.getD k 0<sz)):ivB sz l=false:=by
 unfold ivB;rw[List.all_eq_false];exact⟨l.getD k 0,getD_mem hk,by simpa using h⟩
theorem ivB_yes {sz:Int} {l:List Int} (h: ∀k,k<l.length->0<=l.getD k 0/\l.getD k 0<sz):ivB sz l=true:=by
 unfold ivB;rw[List.all_eq_true];intro v hv;obtain⟨i,hi,rfl⟩:=List.mem_iff_getElem.1 hv;have:=h i hi;simpa [List.getD,hi] using this
theorem isVertex_z (sz:Int) (A:Option Addr) (m c:Nat) (x:Nat->Int) (Al:Option Addr) (n cl:Nat) (l:List Int) (w:World) (h:GA w A m c x) (hl:LI w Al n cl l) (hm:m<=1048576) (hn:n<=1048576):
 Calls Tryz.prog 150 #[.agg #[.int .i64 sz,.slice A m c],.slice Al n cl] w fun e w'=>e=.returned (.bool (ivB sz l&&okB sz m x))/\Below w.heap.size w w':=by
 obtain⟨W,hW⟩: ∃W,W=(w.alloc (Obj.cells #[.int .i64 sz,.slice A m c] 26)):=⟨_,rfl⟩;have HB:Hid (From w W):=by rw[hW];exact From.alloc _ _
 have HK:=hh_ (h.keep HB.below);have HL:=hh_ (hl.keep HB.below);have HC:Hid (GC W w.heap.size sz A m c):=by rw[hW];exact GC.new _ _ _ _ _
 have HW:=hh_ hW;have HN:=hh_ hl.len;obtain⟨e0,e1⟩:=gc_ HC;clear hW h hl;cases ho:okB sz m x
 ·have Ho:=hh_ ho;clear ho;go_enter Tryz.func150,Tryz.ntmps150;go_wp2;rw[<-HW.out];clear HW;go_loop [9] (fun i=> ∃k:Nat,k<=n/\i=.int .i64 k) (fun i=>n-(intOf i).toNat);case atStart=>exact⟨0,Nat.zero_le _,rfl⟩
  case round=>
   obtain⟨k,hk,rfl⟩:=hrel;by_cases hlt:k<n
   ·obtain⟨b,o,rfl⟩:=HL.addr (by omega);have q0:=HL.at hlt;obtain⟨u,hu⟩: ∃u:Int,u=l.getD k 0:=⟨_,rfl⟩;rw[<-hu] at q0;have i1:(k:Int)<n:=by omega
    clear hu;by_cases hr:0<=u/\u<=wrap64 (sz-1)
    ·obtain⟨r1,r2⟩:=hr;go_wp2_with (first|(go_at_call 60;refine(within_yes _ _ _ _ r1 r2).mono ?_;rintro e w' ⟨rfl,rfl⟩))
     go_round;case rel=>exact⟨k+1,by omega,by go_num⟩
     case measure=>simp[intOf];omega
    ·have hr':Hid (u<0\/wrap64 (sz-1)<u):=by show _\/_;omega
     clear hr;go_wp2_with (first|(go_at_call 60;refine(within_no _ _ _ _ hr'.out).mono ?_;rintro e w' ⟨rfl,rfl⟩))
     go_ret;exact⟨ret_bool (Bool.and_false _).symm,HB.below⟩
   ·have i1:(n:Int)<=k:=by omega
    go_wp2_with fail
    refine(IsGraph_any sz A m c x W W.heap.size HK.rd nr_ hm).mono ?_;rintro e w1 ⟨rfl,hb1⟩;rw[Ho.out];have HB1:=hh_ (HB.keep hb1);clear hb1;go_wp2;go_ret;exact⟨ret_bool (Bool.and_false _).symm,HB1.below⟩
 ·obtain⟨_,es,vg0,_⟩:=okB_ok' ho;subst es;have hn7:=vg0.n7;rw[<-ho];clear ho vg0;go_enter Tryz.func150,Tryz.ntmps150;go_wp2;rw[<-HW.out];clear HW;go_loop [9] (fun i=> ∃k:Nat,k<=n/\i=.int .i64 k/\Hid (∀j,j<k->0<=l.getD j 0/\l.getD j 0<(m:Int))) (fun i=>n-(intOf i).toNat);case atStart=>exact⟨0,Nat.zero_le _,rfl,fun v hv=>absurd hv (by omega)⟩
  case round=>
   obtain⟨k,hk,rfl,hall⟩:=hrel;by_cases hlt:k<n
   ·obtain⟨b,o,rfl⟩:=HL.addr (by omega);have q0:=HL.at hlt;obtain⟨u,hu⟩: ∃u:Int,u=l.getD k 0:=⟨_,rfl⟩;rw[<-hu] at q0;have Hu:=hh_ hu;have i1:(k:Int)<n:=by omega
    clear hu;by_cases hr:0<=u/\u<(m:Int)
    ·have Hr:=hh_ hr;obtain⟨r1,r2⟩:=hr;go_wp2_with (first|(go_at_call 60;refine(within_yes _ _ _ _ r1 (by omega)).mono ?_;rintro e w' ⟨rfl,rfl⟩))
     go_round;case rel=>
      refine⟨k+1,by omega,by go_num,fun j hj=> ?_⟩;by_cases hjk:j<k
      ·exact hall.out j hjk
      ·obtain rfl:j=k:=by omega
       rw[<-Hu.out];exact Hr.out
     case measure=>simp[intOf];omega
    ·have hno:Hid (ivB (m:Int) l=false):=ivB_no (k:=k) (by rw[<-HN.out];exact hlt) (by rw[<-Hu.out];exact hr);have hr':Hid (u<0\/(m:Int)-1<u):=by show _\/_;omega
     clear hr;go_wp2_with (first|(go_at_call 60;refine(within_no _ _ _ _ hr'.out).mono ?_;rintro e w' ⟨rfl,rfl⟩))
     go_ret;exact⟨ret_bool (by rw[hno.out];rfl),HB.below⟩
   ·have hyes:Hid (ivB (m:Int) l=true):=ivB_yes fun j hj=>hall.out j (by rw[<-HN.out] at hj;omega)
    have i1:(n:Int)<=k:=by omega
    clear hall;go_wp2_with fail
    refine(IsGraph_any (m:Int) A m c x W W.heap.size HK.rd nr_ hm).mono ?_;rintro e w1 ⟨rfl,hb1⟩;have HB1:=hh_ (HB.keep hb1);clear hb1;go_wp2;go_ret;exact⟨ret_bool (by rw[hyes.out];rfl),HB1.below⟩
theorem own_1 (w:World) (v:Int):Own (w.alloc (Obj.cells #[.int .i64 v] 3)) w.heap.size (w.heap.size+1) 3 1 (some ⟨w.heap.size,0,none⟩) 1 1 (fun _=> .int .i64 v):=
 .inr ⟨w.heap.size,#[.int .i64 v],rfl,nr_,Nat.lt_succ_self _,heap_alloc_new w _,nr_,by unfold maxLen;omega,rfl,fun j hj=>by
  have e:j=0:=by omega
  subst e;rfl⟩
theorem one_on (z:World) (v:Nat):ON z.heap.size (z.alloc (Obj.cells #[.int .i64 (v:Int)] 3)) (some ⟨z.heap.size,0,none⟩) 1 [v]:=
 ⟨((own_1 z (v:Int)).mono nr_ (by simp)).congr (fun j hj=>by
   have:j=0:=by simp at hj;omega
   subst this;rfl)⟩
section
variable {A:Option Addr} {m c:Nat} {r:Nat->Nat} {fn:FuncId} {caps:Array Value} {f:List Nat->Nat->Nat}
def bsI (o:Option Nat):Int:=match o with|none=> -1|some b=>(b:Int)
end
noncomputable def lxB (sz:Int) (m:Nat) (x:Nat->Int) (s:Int):Bool:=decide (0<=s/\s<sz)&&okB sz m x
noncomputable def lxL (sz:Int) (m:Nat) (x:Nat->Int) (s:Int):List Nat:=if lxB sz m x s=true then lexN (rw_ x) m s.toNat else []
theorem lxL_no {sz:Int} {m:Nat} {x:Nat->Int} {s:Int} (h:lxB sz m x s=false):lxL sz m x s= []:=by unfold lxL;rw[h];rfl
theorem lxL_yes {sz:Int} {m:Nat} {x:Nat->Int} {s:Int} (h:lxB sz m x s=true):lxL sz m x s=lexN (rw_ x) m s.toNat:=by unfold lxL;rw[h];rfl
end Go.Proofs.YtfabbohijhjpcaaGreatDoor
