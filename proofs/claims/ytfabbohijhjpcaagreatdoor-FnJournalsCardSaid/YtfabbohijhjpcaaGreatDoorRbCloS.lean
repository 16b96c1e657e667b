/- Lemmas. -/
import Derived.Test.YtfabbohijhjpcaaGreatDoorRbColS
import Derived.Test.YtfabbohijhjpcaaGreatDoorRbPthS
/-
-/
namespace Go.Proofs.YtfabbohijhjpcaaGreatDoor
open Go.RowKit
set_option maxHeartbeats 1600000
section
variable {A:Option Addr} {m c:Nat} {r:Nat->Nat}
theorem LargestClique_sv {w:World} (h:GV w A m c r):
 Calls Tryz.prog 263 #[.agg #[.int .i64 m,.slice A m c]] w fun e w'=>e=.returned (.int .i64 (lqN r m:Nat))/\Below w.heap.size w w':=by
 have hn7:=h.vg.n7;have h128:=two_pow_le hn7;have hpos:=Nat.two_pow_pos m;have hpc:=pow_cast m;have p1:=pow_shl m hn7;obtain⟨W,hW,HB,HG⟩:=gbW h;have HW:=hh_ hW;clear hW h;obtain⟨e0,e1⟩:=gx_ HG;go_enter Tryz.func263,Tryz.ntmps263;go_wp2;rw[<-HW.out];clear HW;go_loopw [3,4] (fun b i wr=> ∃k:Nat,1<=k/\k<=2^m/\i=.int .i64 k/\b=.int .i64 (lgK (cliq r) k:Nat)/\Hid (From W wr)) (fun _ i _=>2^m-(intOf i).toNat);case atStart=>exact⟨1,nr_,hpos,rfl,by rw[lgK_one];rfl,From.refl _⟩
 case round=>
  obtain⟨k,hk1,hk,rfl,rfl,HR⟩:=hrel;clear e0 e1;replace HB:=hh_ (HB.keep HR.below);replace HG:=hh_ (HG.keep HR.below);obtain⟨e0,e1⟩:=gx_ HG;have hlk:=lgK_lt (p:=cliq r) k (by omega);go_wp2_with fail
  refine(IsGraph_sv HG.gv).mono ?_;rintro e w1 ⟨rfl,hb1⟩;clear e0 e1;replace HB:=hh_ (HB.keep hb1);replace HG:=hh_ (HG.keep hb1);replace HR:=hh_ (HR.keep hb1);clear hb1;obtain⟨e0,e1⟩:=gx_ HG;by_cases hlt:k<2^m
  ·have i1:(k:Int)<2^m:=by omega
   go_wp2_with fail
   refine(CountSet_sv k (by omega) _).mono ?_;rintro e w2 ⟨rfl,hb2⟩;clear e0 e1;replace HB:=hh_ (HB.keep hb2);replace HG:=hh_ (HG.keep hb2);replace HR:=hh_ (HR.keep hb2);clear hb2;obtain⟨e0,e1⟩:=gx_ HG;go_wp2_with fail
   refine(CountSet_sv (lgK (cliq r) k) (by omega) _).mono ?_;rintro e w3 ⟨rfl,hb3⟩;clear e0 e1;replace HB:=hh_ (HB.keep hb3);replace HG:=hh_ (HG.keep hb3);replace HR:=hh_ (HR.keep hb3);clear hb3;obtain⟨e0,e1⟩:=gx_ HG;by_cases hcn:cn (lgK (cliq r) k)<cn k
   ·have i2:((cn (lgK (cliq r) k):Nat):Int)<((cn k:Nat):Int):=by omega
    go_wp2_with fail
    refine(IsClique_sv HG.gv hlt).mono ?_;rintro e w4 ⟨rfl,hb4⟩;clear e0 e1;replace HB:=hh_ (HB.keep hb4);replace HG:=hh_ (HG.keep hb4);replace HR:=hh_ (HR.keep hb4);clear hb4;obtain⟨e0,e1⟩:=gx_ HG;cases hp:(cliq r) k
    ·have Hn:Hid (lgK (cliq r) (k+1)=lgK (cliq r) k):=lgK_no (.inr hp);clear hp;go_wp2;go_roundw;case rel=>exact⟨k+1,by omega,by omega,by go_num,by rw[Hn.out],HR⟩
     case measure=>simp[intOf];omega
    ·have Hn:Hid (lgK (cliq r) (k+1)=k):=lgK_yes hcn hp;clear hp;go_wp2;go_roundw;case rel=>exact⟨k+1,by omega,by omega,by go_num,by rw[Hn.out],HR⟩
     case measure=>simp[intOf];omega
   ·have Hn:Hid (lgK (cliq r) (k+1)=lgK (cliq r) k):=lgK_no (.inl hcn);have i2:((cn k:Nat):Int)<=((cn (lgK (cliq r) k):Nat):Int):=by omega
    go_wp2;go_roundw;case rel=>exact⟨k+1,by omega,by omega,by go_num,by rw[Hn.out],HR⟩
    case measure=>simp[intOf];omega
  ·have hkm:k=2^m:=by omega
   have i1:(2:Int)^m<=(k:Int):=by omega
   have Hk:Hid (lgK (cliq r) k=lqN r m):=by rw[hkm];exact rfl
   clear hkm;go_wp2;go_ret;exact⟨ret_int (by rw[Hk.out]),HB.below⟩
theorem CliqueNumber_sv {w:World} (h:GV w A m c r):
 Calls Tryz.prog 181 #[.agg #[.int .i64 m,.slice A m c]] w fun e w'=>e=.returned (.int .i64 (cn (lqN r m):Nat))/\Below w.heap.size w w':=by
 have hl:lqN r m<128:=Nat.lt_of_lt_of_le (lq_lt r m) (two_pow_le h.vg.n7);obtain⟨W,hW,HB,HG⟩:=gbW h;have HW:=hh_ hW;clear hW h;obtain⟨e0,e1⟩:=gx_ HG;go_enter Tryz.func181,Tryz.ntmps181;go_wp2_with fail
 rw[<-HW.out];refine(IsGraph_sv HG.gv).mono ?_;rintro e w1 ⟨rfl,hb1⟩;clear HW;clear e0 e1;obtain⟨HB,HG,e0,e1⟩:=kG_ HB HG hb1;clear hb1;go_wp2_with fail
 refine(LargestClique_sv HG.gv).mono ?_;rintro e w2 ⟨rfl,hb2⟩;clear e0 e1;obtain⟨HB,HG,e0,e1⟩:=kG_ HB HG hb2;clear hb2;go_wp2_with fail
 refine(CountSet_sv (lqN r m) hl _).mono ?_;rintro e w3 ⟨rfl,hb3⟩;clear e0 e1;obtain⟨HB,HG,e0,e1⟩:=kG_ HB HG hb3;clear hb3;go_wp2;go_ret;exact⟨rfl,HB.below⟩
theorem l1In_tt {n lo hi:Int} (w:World) (h1:lo<=n) (h2:n<=hi):Calls Tryz.prog 68 #[.int .i64 n,.int .i64 lo,.int .i64 hi] w fun e w'=>e=.returned (.bool true)/\Below w.heap.size w w':=
 (l1In_yes n lo hi w h1 h2).mono fun _ _ ⟨h1,h2⟩=>⟨h1,h2▸br_⟩
set_option maxRecDepth 100000 in
theorem ColoringWith_sv {k:Nat} {w:World} (h:GV w A m c r) (hk1:1<=k) (hk7:k<=7):
 Calls Tryz.prog 261 #[.agg #[.int .i64 m,.slice A m c],.int .i64 k] w fun e w'=> ∃A' n' c',e=.returned (.tuple #[.slice A' n' c',.bool (cOf r m k).isSome])/\(∀x,cOf r m k=some x->n'=x.length/\ON w.heap.size w' A' c' x)/\Below w.heap.size w w':=by
 have HL:Hid (∀(z:World),From w z->Calls Tryz.prog 317 #[.agg #[.int .i64 m,.slice A m c],.int .i64 k,.slice (some ⟨z.heap.size,0,none⟩) 0 0] (z.alloc (Obj.cells #[] 3)) fun e w'=> ∃A' n' c',e=.returned (.tuple #[.slice A' n' c',.bool (cOf r m k).isSome])/\(∀x,cOf r m k=some x->n'=x.length/\ON w.heap.size w' A' c' x)/\Below z.heap.size z w'):=fun z hz=>by
  refine(l24_s hk7 m [] (some ⟨z.heap.size,0,none⟩) 0 (z.alloc (Obj.cells #[] 3)) w.heap.size (by simp) ((h.keep hz.below).keep (br_.alloc nr_ _)) ((ON.nil z).mono hz.below.size) (by have:=hz.below.size;simp;omega)).mono ?_;rintro e w' ⟨A',n',c',h1,h2,h3⟩;exact⟨A',n',c',h1,h2,(br_.alloc nr_ _).trans (h3.mono (by simp))⟩
 obtain⟨W,hW,HB,HG⟩:=gbW h;have HW:=hh_ hW;clear hW h;obtain⟨e0,e1⟩:=gx_ HG;go_enter Tryz.func261,Tryz.ntmps261;go_wp2_with fail
 rw[<-HW.out];refine(IsGraph_sv HG.gv).mono ?_;rintro e w1 ⟨rfl,hb1⟩;clear HW;clear e0 e1;obtain⟨HB,HG,e0,e1⟩:=kG_ HB HG hb1;clear hb1;go_wp2_with fail
 refine(l1In_tt (n:=(k:Int)) (lo:=1) (hi:=7) w1 (by omega) (by omega)).mono ?_;rintro e w2 ⟨rfl,hb2⟩;clear e0 e1;obtain⟨HB,HG,e0,e1⟩:=kG_ HB HG hb2;clear hb2;have hlt:=HG.lt;go_wp2_with fail
 refine(HL.out _ HB).mono ?_;rintro e w3 ⟨A5,n5,c5,rfl,hx,hb3⟩;have HX:=hh_ hx;clear hx HL;clear e0 e1;obtain⟨HB,HG,e0,e1⟩:=kG_ HB HG hb3;clear hb3;go_wp2;go_ret2;exact⟨_,_,_,rfl,HX.out,HB.below⟩
set_option maxRecDepth 100000 in
theorem ChromaticNumber_sv {w:World} (h:GV w A m c r):
 Calls Tryz.prog 180 #[.agg #[.int .i64 m,.slice A m c]] w fun e w'=>e=.returned (.int .i64 (chN r m:Nat))/\Below w.heap.size w w':=by
 have hn7:=h.vg.n7;have hn1:=h.vg.n1;obtain⟨hcm,hsome,hmin⟩:=chN_spec (r:=r) hn1;have hpos:=chN_pos (r:=r) (m:=m);have HS:=hh_ hsome;have HM:=hh_ hmin;obtain⟨K,hK⟩: ∃K,K=chN r m:=⟨_,rfl⟩;rw[<-hK] at hcm HS HM hpos ⊢;clear hsome hmin hK;obtain⟨W,hW,HB,HG⟩:=gbW h;have HW:=hh_ hW;clear hW h;obtain⟨e0,e1⟩:=gx_ HG;have HR0:Hid (From W W):=From.refl W;go_enter Tryz.func180,Tryz.ntmps180;go_wp2_with fail
 rw[<-HW.out];go_wp2;go_loopw [3] (fun i wr=> ∃k:Nat,1<=k/\k<=K/\i=.int .i64 k/\Hid (From W wr)) (fun i _=>K-(intOf i).toNat);case atStart=>exact⟨1,nr_,hpos,rfl,HR0⟩
 case round=>
  clear HR0;obtain⟨k,hk1,hk,rfl,HR⟩:=hrel;clear e0 e1;replace HB:=hh_ (HB.keep HR.below);replace HG:=hh_ (HG.keep HR.below);obtain⟨e0,e1⟩:=gx_ HG;have i1:(k:Int)<=7:=by omega
  go_wp2_with fail
  refine(IsGraph_sv HG.gv).mono ?_;rintro e w1 ⟨rfl,hb1⟩;clear e0 e1;replace HB:=hh_ (HB.keep hb1);replace HG:=hh_ (HG.keep hb1);replace HR:=hh_ (HR.keep hb1);clear hb1;obtain⟨e0,e1⟩:=gx_ HG;cases hs:(cOf r m k).isSome
  ·have hlt:k<K:=by
    by_cases e:k=K
    ·subst e;rw[HS.out] at hs;cases hs
    ·omega
   have Hs:=hh_ hs;clear hs;go_wp2_with fail
   refine(ColoringWith_sv HG.gv hk1 (by omega)).mono ?_;rintro e w5 ⟨A5,n5,c5,rfl,_,hb5⟩;rw[Hs.out];clear e0 e1;replace HB:=hh_ (HB.keep hb5);replace HG:=hh_ (HG.keep hb5);replace HR:=hh_ (HR.keep hb5);clear hb5;obtain⟨e0,e1⟩:=gx_ HG;go_wp2;go_roundw;case rel=>exact⟨k+1,by omega,by omega,by go_num,HR⟩
   case measure=>simp[intOf]<;>omega
  ·have hKe:k=K:=by
    by_cases e:k<K
    ·rw[HM.out k hk1 e] at hs;cases hs
    ·omega
   have Hs:=hh_ hs;have HKe:=hh_ hKe;clear hs hKe;go_wp2_with fail
   refine(ColoringWith_sv HG.gv hk1 (by omega)).mono ?_;rintro e w5 ⟨A5,n5,c5,rfl,_,hb5⟩;rw[Hs.out];clear e0 e1;replace HB:=hh_ (HB.keep hb5);replace HG:=hh_ (HG.keep hb5);replace HR:=hh_ (HR.keep hb5);clear hb5;obtain⟨e0,e1⟩:=gx_ HG;go_wp2;go_ret;exact⟨ret_int (by rw[HKe.out]),HB.below⟩
end
set_option maxHeartbeats 6400000
section
variable {A:Option Addr} {m c:Nat} {r:Nat->Nat} {s:Nat} {w:World}
set_option maxRecDepth 100000 in
theorem LeastImperfect_sv (h:GV w A m c r):
 Calls Tryz.prog 115 #[.agg #[.int .i64 m,.slice A m c]] w fun e w'=>e=.returned (lsV (pfO r m))/\Below w.heap.size w w':=by
 have hn7:=h.vg.n7;have h128:=two_pow_le hn7;have hpos:=Nat.two_pow_pos m;have hpc:=pow_cast m;have p1:=pow_shl m hn7;have HV:=hh_ h.vg;obtain⟨W,hW,HB,HG⟩:=gbW h;have HW:=hh_ hW;clear hW h;obtain⟨e0,e1⟩:=gx_ HG;go_enter Tryz.func115,Tryz.ntmps115;go_wp2;rw[<-HW.out];clear HW;go_loopw [4] (fun i wr=> ∃k:Nat,1<=k/\k<=2^m/\i=.int .i64 k/\Hid (∀u,u<k->pfB r u=false)/\Hid (From W wr)) (fun i _=>2^m-(intOf i).toNat);case atStart=>exact⟨1,nr_,hpos,rfl,(fun u hu=>by rw[show u=0 by omega];exact pfB_zero r),From.refl _⟩
 case round=>
  obtain⟨k,hk1,hk,rfl,hall,HR⟩:=hrel;clear e0 e1;replace HB:=hh_ (HB.keep HR.below);replace HG:=hh_ (HG.keep HR.below);obtain⟨e0,e1⟩:=gx_ HG;go_wp2_with fail
  refine(IsGraph_sv HG.gv).mono ?_;rintro e w1 ⟨rfl,hb1⟩;clear e0 e1;replace HB:=hh_ (HB.keep hb1);replace HG:=hh_ (HG.keep hb1);replace HR:=hh_ (HR.keep hb1);clear hb1;obtain⟨e0,e1⟩:=gx_ HG;by_cases hlt:k<2^m
  ·have i1:(k:Int)<2^m:=by omega
   have h0:k≠0:=by omega
   have hp:=pfB_not (r:=r) h0;have hsm:cn k<=4->pfB r k=false:=fun h=>pfB_small HV hlt h0 h
   have KI:=hh_ (InducedOn_sv HG.gv hlt h0);have Hgv:Hid (∀ {A':Option Addr} {c' lo hi:Nat} {w':World},Own w' lo hi 3 1 A' (cn k) c' (fun j=> .int .i64 (inR r k j:Nat))->hi<=w'.heap.size->GV w' A' (cn k) c' (inR r k)):=fun h hhi=>ind_gv HV hlt h0 h hhi
   obtain⟨R,hR⟩: ∃R,R=inR r k:=⟨_,rfl⟩;obtain⟨n,hn⟩: ∃n,n=cn k:=⟨_,rfl⟩;have KI2:Hid (Calls Tryz.prog 155 #[.agg #[.int .i64 m,.slice A m c],.int .i64 k] w1 fun e w'=> ∃A' c',e=.returned (.tuple #[.agg #[.int .i64 (n:Nat),.slice A' n c'],.bool true])/\GV w' A' n c' R/\Below w1.heap.size w1 w'):=by
    rw[hR,hn];refine KI.mono ?_;rintro e w' ⟨A',c',h1,h2,h3⟩;exact⟨A',c',h1,Hgv.out h2 nr_,h3⟩
   rw[<-hR,<-hn] at hp;rw[<-hn] at hsm;obtain⟨X,hX⟩: ∃X,X=chN R n:=⟨_,rfl⟩;obtain⟨Y,hY⟩: ∃Y,Y=cn (lqN R n):=⟨_,rfl⟩;have KX:Hid (∀ {A':Option Addr} {c':Nat} {z:World},GV z A' n c' R->Calls Tryz.prog 180 #[.agg #[.int .i64 n,.slice A' n c']] z fun e w'=>e=.returned (.int .i64 (X:Nat))/\Below z.heap.size z w'):=by rw[hX];exact fun h=>ChromaticNumber_sv h
   have KY:Hid (∀ {A':Option Addr} {c':Nat} {z:World},GV z A' n c' R->Calls Tryz.prog 181 #[.agg #[.int .i64 n,.slice A' n c']] z fun e w'=>e=.returned (.int .i64 (Y:Nat))/\Below z.heap.size z w'):=by rw[hY];exact fun h=>CliqueNumber_sv h
   rw[<-hX,<-hY] at hp;have Hp:=hh_ hp;have Hsm:=hh_ hsm;clear hR hn hX hY hp KI Hgv h0 hsm;go_wp2_with fail
   refine(KI2.out).mono ?_;rintro e w2 ⟨A2,c2,rfl,hg2,hb2⟩;clear e0 e1;replace HB:=hh_ (HB.keep hb2);replace HG:=hh_ (HG.keep hb2);replace HR:=hh_ (HR.keep hb2);clear hb2;obtain⟨e0,e1⟩:=gx_ HG;clear KI2;obtain⟨W2,hW2⟩: ∃W2,W2=(w2.alloc (Obj.cells #[.int .i64 n,.slice A2 n c2] 26)):=⟨_,rfl⟩;have hb2:Below w2.heap.size w2 W2:=by rw[hW2];exact br_.alloc nr_ _
   have HU:Hid (GC W2 w2.heap.size n A2 n c2):=by rw[hW2];exact GC.new _ _ _ _ _
   have HG2:Hid (GV W2 A2 n c2 R):=hg2.keep hb2;clear e0 e1;replace HB:=hh_ (HB.keep hb2);replace HG:=hh_ (HG.keep hb2);replace HR:=hh_ (HR.keep hb2);clear hg2;obtain⟨e0,e1⟩:=gx_ HG;have HW2:=hh_ hW2;clear hW2 hb2;have d0:=HU.c0;have d1:=HU.c1;have Hnext:Hid (pfB r k=false-> ∀u,u<k+1->pfB r u=false):=fun hp u hu=>by
    by_cases huk:u<k
    ·exact hall.out u huk
    ·obtain rfl:u=k:=by omega
     exact hp
   by_cases h5:5<=n
   ·have i2:(5:Int)<=n:=by omega
    by_cases hlt:Y<X
    ·have i3:(Y:Int)<X:=by omega
     have Hq:Hid (pfB r k=true):=by show _=_;rw[Hp.out];exact decide_eq_true hlt
     have Hn:Hid (pfO r m=some k):=lsK_yes (by assumption) Hq.out hall.out;clear hlt;go_wp2;rw[<-HW2.out];clear HW2;obtain⟨HSC,HZ0,HS1⟩:=hsc2 d0 d1;have KR1:Hid (∀z:World,Below W2.heap.size W2 z->_):=fun z hz=>KX.out (HG2.keep hz)
     have KR2:Hid (∀z:World,Below W2.heap.size W2 z->_):=fun z hz=>KY.out (HG2.keep hz)
     refine wpH HS1.out (fun hHeld=> ?_);refine pcY 0 ?_;iterate 4 (refine ptY ?_)
     refine pcY 6 ?_;refine w1H 5 (fun K hK=> ?_);go_simp;go_at_call 180;refine(KR1.out _ HZ0.out).mono ?_
     rintro e w3 ⟨rfl,hb3⟩;have hz3:=bl_trans HZ0.out hb3;refine hK.out _ _ (HSC.out _ hz3) (fun hHeld=> ?_);clear hK K;try simp only[Act.put,sl0,sl1,sl2]
     refine w1H 7 (fun K hK=> ?_);go_simp;go_at_call 181;refine(KR2.out _ hz3).mono ?_
     rintro e w4 ⟨rfl,hb4⟩;have hz4:=bl_trans hz3 hb4;refine hK.out _ _ (HSC.out _ hz4) (fun hHeld=> ?_);clear hK K;try simp only[Act.put,sl0,sl1,sl2]
     iterate 2 (refine ptY ?_)
     refine wpAnyH_done (by kernel_rfl) ?_ _;clear e0 e1;replace HB:=hh_ (HB.keep hz4);replace HG:=hh_ (HG.keep hz4);replace HR:=hh_ (HR.keep hz4);clear hb3 hz3 hb4 hz4 HSC HZ0 HS1 KR1 KR2;obtain⟨e0,e1⟩:=gx_ HG;go_wp2;go_ret2;exact⟨by rw[Hn.out];rfl,HB.below⟩
    ·have i3:(X:Int)<=Y:=by omega
     have Hq:Hid (∀u,u<k+1->pfB r u=false):=Hnext.out (by rw[Hp.out];exact decide_eq_false hlt);clear hlt;go_wp2;rw[<-HW2.out];clear HW2;obtain⟨HSC,HZ0,HS1⟩:=hsc2 d0 d1;have KR1:Hid (∀z:World,Below W2.heap.size W2 z->_):=fun z hz=>KX.out (HG2.keep hz)
     have KR2:Hid (∀z:World,Below W2.heap.size W2 z->_):=fun z hz=>KY.out (HG2.keep hz)
     refine wpH HS1.out (fun hHeld=> ?_);refine pcY 0 ?_;iterate 4 (refine ptY ?_)
     refine pcY 6 ?_;refine w1H 5 (fun K hK=> ?_);go_simp;go_at_call 180;refine(KR1.out _ HZ0.out).mono ?_
     rintro e w5 ⟨rfl,hb5⟩;have hz5:=bl_trans HZ0.out hb5;refine hK.out _ _ (HSC.out _ hz5) (fun hHeld=> ?_);clear hK K;try simp only[Act.put,sl0,sl1,sl2]
     refine w1H 7 (fun K hK=> ?_);go_simp;go_at_call 181;refine(KR2.out _ hz5).mono ?_
     rintro e w6 ⟨rfl,hb6⟩;have hz6:=bl_trans hz5 hb6;refine hK.out _ _ (HSC.out _ hz6) (fun hHeld=> ?_);clear hK K;try simp only[Act.put,sl0,sl1,sl2]
     iterate 2 (refine ptY ?_)
     refine wpAnyH_done (by kernel_rfl) ?_ _;clear e0 e1;replace HB:=hh_ (HB.keep hz6);replace HG:=hh_ (HG.keep hz6);replace HR:=hh_ (HR.keep hz6);clear hb5 hz5 hb6 hz6 HSC HZ0 HS1 KR1 KR2;obtain⟨e0,e1⟩:=gx_ HG;go_wp2;go_roundw;case rel=>exact⟨k+1,by omega,by omega,by go_num,Hq,HR⟩
     case measure=>simp[intOf];omega
   ·have i2:(n:Int)<5:=by omega
    have i3:decide ((5:Int)<=n)=false:=by rw[decide_eq_false];omega
    have Hq:Hid (∀u,u<k+1->pfB r u=false):=Hnext.out (Hsm.out (by omega));go_wp2;rw[<-HW2.out];clear HW2;obtain⟨HSC,HZ0,HS1⟩:=hsc2 d0 d1;refine wpH HS1.out (fun hHeld=> ?_);refine pcY 0 ?_;iterate 3 (refine ptY ?_)
    iterate 5 (refine ptN ?_)
    refine ptY ?_;refine wpAnyH_done (by kernel_rfl) ?_ _;clear e0 e1;replace HB:=hh_ (HB.keep HZ0.out);replace HG:=hh_ (HG.keep HZ0.out);replace HR:=hh_ (HR.keep HZ0.out);clear HSC HZ0 HS1;obtain⟨e0,e1⟩:=gx_ HG;go_wp2;go_roundw;case rel=>exact⟨k+1,by omega,by omega,by go_num,Hq,HR⟩
    case measure=>simp[intOf];omega
  ·have Hn:Hid (pfO r m=none):=lsK_no fun u hu=>hall.out u (by omega)
   have i1:(2:Int)^m<=(k:Int):=by omega
   go_wp2;go_ret2;exact⟨by rw[Hn.out];rfl,HB.below⟩
end
section
variable (sz:Int) (A:Option Addr) (m c:Nat) (x:Nat->Int) (w:World)
theorem LeastImperfect_sno (h:GA w A m c x) (hm:m<=1048576) (hok:okB sz m x=false):
 Calls Tryz.prog 115 #[.agg #[.int .i64 sz,.slice A m c]] w fun e w'=>e=.returned (lsV none)/\Below w.heap.size w w':=by
 obtain⟨W,hW,HB,HK,HC⟩:=gaW sz h;have HW:=hh_ hW;have Ho:=hh_ hok;clear hW h hok;go_enter Tryz.func115,Tryz.ntmps115;go_wp2_with fail
 rw[<-HW.out];clear HW;go_wp2;go_loopw [4] (fun i wr=>i=.int .i64 1/\wr=W) (fun i _=>1);case atStart=>exact⟨rfl,rfl⟩
 case round=>
  obtain⟨rfl,rfl⟩:=hrel;obtain⟨e0,e1⟩:=gc_ HC;go_wp2_with fail
  refine(IsGraph_sany sz A m c x wr wr.heap.size HK.rd nr_ hm).mono ?_;rintro e w1 ⟨rfl,hb1⟩;rw[Ho.out];replace HB:=hh_ (HB.keep hb1);clear hb1;go_wp2;go_ret2;exact⟨rfl,HB.below⟩
set_option maxRecDepth 100000 in
theorem IsPerfect_s (h:GA w A m c x) (hm:m<=1048576):
 Calls Tryz.prog 56 #[.agg #[.int .i64 sz,.slice A m c]] w fun e w'=>e=.returned (.bool (peB sz m x))/\Below w.heap.size w w':=by
 obtain⟨W,hW,HB,HK,HC⟩:=gaW sz h;have HW:=hh_ hW;clear hW h;go_enter Tryz.func56,Tryz.ntmps56;cases ho:okB sz m x
 ·have Hn:Hid (peB sz m x=false):=peB_no ho;have KF:=hh_ (LeastImperfect_sno sz A m c x W HK hm ho);have Ho:=hh_ ho;clear ho;obtain⟨e0,e1⟩:=gc_ HC;go_wp2_with fail
  rw[<-HW.out];refine(KF.out).mono ?_;rintro e w1 ⟨rfl,hb1⟩;clear HW;clear e0 e1;obtain⟨HB,HK,HC,e0,e1⟩:=kC_ HB HK HC hb1;clear hb1;clear KF;rw[lsV_none];go_wp2_with fail
  refine(IsGraph_sany sz A m c x w1 w1.heap.size HK.rd nr_ hm).mono ?_;rintro e w2 ⟨rfl,hb2⟩;rw[Ho.out];clear e0 e1;obtain⟨HB,HK,HC,e0,e1⟩:=kC_ HB HK HC hb2;clear hb2;go_wp2;go_ret;exact⟨ret_bool Hn.symm,HB.below⟩
 obtain⟨_,es,_,_⟩:=okB_ok' ho;subst es;have Hn:Hid (peB (m:Int) m x= !(pfO (rw_ x) m).isSome):=peB_yes ho;have HG:Hid (GBox W w.heap.size A m c (rw_ x)):=⟨HK.gv ho,HC.c0,HC.c1,HC.lt⟩;have KF:=hh_ (LeastImperfect_sv HG.gv);obtain⟨o,ho2⟩: ∃o,o=pfO (rw_ x) m:=⟨_,rfl⟩;rw[<-ho2] at Hn KF;clear ho ho2 HC HK;cases o
 ·skip;obtain⟨e0,e1⟩:=gx_ HG;go_wp2_with fail
  rw[<-HW.out];refine(KF.out).mono ?_;rintro e w2 ⟨rfl,hb2⟩;clear HW;clear e0 e1;obtain⟨HB,HG,e0,e1⟩:=kG_ HB HG hb2;clear hb2;clear KF;rw[lsV_none];go_wp2_with fail
  refine(IsGraph_sv HG.gv).mono ?_;rintro e w3 ⟨rfl,hb3⟩;clear e0 e1;obtain⟨HB,HG,e0,e1⟩:=kG_ HB HG hb3;clear hb3;go_wp2;go_ret;exact⟨ret_bool Hn.symm,HB.below⟩
 ·skip;obtain⟨e0,e1⟩:=gx_ HG;go_wp2_with fail
  rw[<-HW.out];refine(KF.out).mono ?_;rintro e w4 ⟨rfl,hb4⟩;clear HW;clear e0 e1;obtain⟨HB,HG,e0,e1⟩:=kG_ HB HG hb4;clear hb4;clear KF;rw[lsV_some];go_wp2_with fail
  refine(IsGraph_sv HG.gv).mono ?_;rintro e w5 ⟨rfl,hb5⟩;clear e0 e1;obtain⟨HB,HG,e0,e1⟩:=kG_ HB HG hb5;clear hb5;go_wp2;go_ret;exact⟨ret_bool Hn.symm,HB.below⟩
end
set_option maxHeartbeats 3200000
set_option maxRecDepth 100000 in
theorem MaximalCliques_sv {A:Option Addr} {m c:Nat} {r:Nat->Nat} {w:World} (h:GV w A m c r):
 Calls Tryz.prog 171 #[.agg #[.int .i64 m,.slice A m c]] w fun e w'=> ∃A' c',e=.returned (.slice A' (mqL r m).length c')/\ON w.heap.size w' A' c' (mqL r m)/\Below w.heap.size w w':=by
 have hn7:=h.vg.n7;have h128:=two_pow_le hn7;have hpos:=Nat.two_pow_pos m;have hpc:=pow_cast m;have p1:=pow_shl m hn7;have HV:=hh_ h.vg;have Hfin:Hid (mqK r m (2^m)=mqL r m):=rfl;obtain⟨b0,o0,rfl⟩:=h.addr;obtain⟨W0,hW0⟩: ∃W0,W0=(w.alloc (Obj.cells #[.int .i64 m,.slice (some ⟨b0,o0,none⟩) m c] 26)):=⟨_,rfl⟩;have HB0:Hid (From w W0):=by rw[hW0];exact From.alloc _ _
 have HG0:Hid (GBox W0 w.heap.size (some ⟨b0,o0,none⟩) m c r):=by rw[hW0];exact h.box
 obtain⟨W,hW⟩: ∃W,W=W0.alloc (Obj.cells #[] 3):=⟨_,rfl⟩;have HRa:Hid (From W0 W):=by rw[hW];exact From.alloc _ _
 have HO:Hid (ON W0.heap.size W (some ⟨W0.heap.size,0,none⟩) 0 []):=by rw[hW];exact ON.nil W0
 have HO1:Hid (ON W0.heap.size W (some ⟨W0.heap.size,0,none⟩) 0 (mqK r m 1)):=by rw[mqK_one];exact HO.out
 have Hl1:Hid ((mqK r m 1).length=0):=by show _=_;rw[mqK_one];rfl
 have HZ0:Hid (w.heap.size+1=W0.heap.size):=by rw[hW0];simp[Hid]
 have HW:=hh_ hW;have HW0:=hh_ hW0;clear hW hW0 h HO;go_enter Tryz.func171,Tryz.ntmps171;go_wp2;rw[<-HW0.out,<-HW.out];clear HW HW0;go_loopw [3,4] (fun l i wr=> ∃(k:Nat) (A':Option Addr) (c':Nat),1<=k/\k<=2^m/\i=.int .i64 k/\l=.slice A' (mqK r m k).length c'/\Hid (ON W0.heap.size wr A' c' (mqK r m k))/\Hid (From W0 wr)) (fun _ i _=>2^m-(intOf i).toNat);case atStart=>exact⟨1,_,0,nr_,hpos,rfl,by rw[Hl1.out,HZ0.out],HO1,HRa⟩
 case round=>
  clear HO1 Hl1 HRa;obtain⟨k,A',c',hk1,hk,rfl,rfl,HO,HR⟩:=hrel;have HG:=hh_ (HG0.keep HR.below);have hml:=mqK_len r m k;have e0:=HG.c0;have e1:=HG.c1;go_wp2_with fail
  refine(IsGraph_sv HG.gv).mono ?_;rintro e w1 ⟨rfl,hb1⟩;clear e0 e1;replace HR:=hh_ (HR.keep hb1);replace HO:=hh_ (HO.keep hb1);replace HG:=hh_ (HG.keep hb1);clear hb1;have e0:=HG.c0;have e1:=HG.c1;by_cases hlt:k<2^m
  ·have i1:(k:Int)<2^m:=by omega
   have Hfx:Hid (mxK r k m=mxB r m k):=rfl;go_wp2_with fail
   refine(IsClique_sv HG.gv hlt).mono ?_;rintro e w2 ⟨rfl,hb2⟩;clear e0 e1;replace HR:=hh_ (HR.keep hb2);replace HO:=hh_ (HO.keep hb2);replace HG:=hh_ (HG.keep hb2);clear hb2;have e0:=HG.c0;have e1:=HG.c1;cases hcl:cliq r k
   ·have Hn:Hid (mqK r m (k+1)=mqK r m k):=mqK_no (by rw[<-Hfx.out];exact mxK_no (j:=0) hcl (Nat.zero_le _));clear hcl;go_wp2;go_roundw;case rel=>exact⟨k+1,_,_,by omega,by omega,by go_num,by rw[Hn.out],by rw[Hn.out];exact HO,HR⟩
    case measure=>simp[intOf];omega
   have Hz:Hid (mxK r k 0=true):=hcl;clear hcl;go_wp2;go_loopw [5,6] (fun b i wz=> ∃v:Nat,v<=m/\i=.int .i64 v/\b=.bool (mxK r k v)/\wz=w2) (fun _ i _=>m-(intOf i).toNat);case atStart=>exact⟨0,Nat.zero_le _,rfl,by rw[Hz.out],rfl⟩
   case round=>
    obtain⟨v,hv,rfl,rfl,rfl⟩:=hrel;by_cases hvm:v<m
    ·have i2:(v:Int)<m:=by omega
     have q0:=HG.gv.row hvm;have hr:=HV.lt128 hvm;obtain⟨x,hx⟩: ∃x,x=r v:=⟨_,rfl⟩;rw[<-hx] at q0 hr;have Hst:Hid (mxK r k (v+1)=(mxK r k v&&(k.testBit v|| !(x&&&k==k)))):=by rw[hx];exact rfl
     clear hx;have E1:=and_one_i64 (k:Int) v (by omega) (by omega);rw[Int.toNat_natCast] at E1;cases hf:mxK r k v
     ·have Hs:Hid (mxK r k (v+1)=false):=by show _=_;rw[Hst.out,hf];rfl
      clear hf;go_wp2;go_roundw;case rel=>exact⟨v+1,by omega,by go_num,by rw[Hs.out],by first|rfl|trivial⟩
      case measure=>simp[intOf]<;>omega
     ·cases hb:k.testBit v
      ·rw[hb] at E1;have E2:=i64_and_nat x k (by omega) (by omega);by_cases hx:x&&&k=k
       ·rw[hx] at E2;have Hs:Hid (mxK r k (v+1)=false):=by show _=_;rw[Hst.out,hf,hb,hx];simp
        clear hf hb hx;go_wp2;go_roundw;case rel=>exact⟨v+1,by omega,by go_num,by rw[Hs.out],by first|rfl|trivial⟩
        case measure=>simp[intOf]<;>omega
       ·have Hs:Hid (mxK r k (v+1)=true):=by show _=_;rw[Hst.out,hf,hb];simp[hx]
        obtain⟨y,hy⟩: ∃y,y=x&&&k:=⟨_,rfl⟩;rw[<-hy] at E2 hx;have hyn:((y:Int) !=(k:Int))=true:=by simp;omega
        clear hf hb hx hy;go_wp2;go_roundw;case rel=>exact⟨v+1,by omega,by go_num,by rw[Hs.out],by first|rfl|trivial⟩
        case measure=>simp[intOf]<;>omega
      ·rw[hb] at E1;have Hs:Hid (mxK r k (v+1)=true):=by show _=_;rw[Hst.out,hf,hb];rfl
       clear hf hb;go_wp2;go_roundw;case rel=>exact⟨v+1,by omega,by go_num,by rw[Hs.out],by first|rfl|trivial⟩
       case measure=>simp[intOf]<;>omega
    ·obtain rfl:m=v:=by omega
     rw[Hfx.out];cases hmx:mxB r m k
     ·have Hn:Hid (mqK r m (k+1)=mqK r m k):=mqK_no hmx;clear hmx;go_wp2;go_roundw;case rel=>exact⟨k+1,_,_,by omega,by omega,by go_num,by rw[Hn.out],by rw[Hn.out];exact HO,HR⟩
      case measure=>simp[intOf];omega
     ·have Hn:Hid (mqK r m (k+1)=mqK r m k++ [k]):=mqK_yes hk1 hmx;clear hmx;obtain⟨T,hT⟩: ∃T,T=mqK r m k:=⟨_,rfl⟩;rw[<-hT] at Hn HO hml ⊢;clear hT;have hzr:=HR.below.size;go_wp2_with (first|(at_builtin;(refine wpList_pushN wr rfl _ _ rfl W0.heap.size wr.heap.size A' c' T HO.own hzr k rfl 1 wr.heap.size rfl rfl (by omega) ?_;intro g3 c3 w3 hO3 hb3)))
      have HOn:Hid (ON W0.heap.size w3 (some ⟨g3,0,none⟩) c3 (T++ [k])):=⟨by rw[List.length_append];exact hO3⟩;have HRn:Hid (From W0 w3):=⟨HR.below.trans hb3⟩;clear hO3 hb3;go_roundw;case rel=>exact⟨k+1,_,_,by omega,by omega,by go_num,by rw[Hn.out,List.length_append];rfl,by rw[Hn.out];exact HOn,HRn⟩
      case measure=>simp[intOf];omega
  ·have hkm:k=2^m:=by omega
   have i1:(2:Int)^m<=(k:Int):=by omega
   have Hk:Hid (mqK r m k=mqL r m):=by rw[hkm];exact Hfin.out
   have HBw:Hid (From w w1):=HB0.up HR.out;have hz0:=HB0.below.size;rw[Hk.out] at HO ⊢;clear hkm hml;go_wp2;go_ret;exact⟨_,_,rfl,HO.mono hz0,HBw.below⟩
set_option maxRecDepth 100000 in
theorem l10Con_v {Al:Option Addr} {cl:Nat} {l:List Nat} {w:World} (hl:LN w Al cl l) (hlt: ∀s∈l,s<128) (hlen:l.length<=1048576):
 Calls Tryz.prog 257 #[.slice Al l.length cl] w fun e w'=>e=.returned (.bool (coB l))/\w=w':=by
 have HL:=hh_ hl;have Hlt:=hh_ hlt;clear hl hlt;go_enter Tryz.func257,Tryz.ntmps257;go_wp2;go_loopw [3] (fun i wr=> ∃v:Nat,v<=7/\i=.int .i64 v/\Hid (∀u,u<v->bgK l u l.length<=1)/\wr=w) (fun i _=>7-(intOf i).toNat);case atStart=>exact⟨0,Nat.zero_le _,rfl,(fun u hu=>absurd hu (by omega)),rfl⟩
 case round=>
  obtain⟨v,hv,rfl,hall,rfl⟩:=hrel;obtain⟨wo,rfl⟩: ∃wo,wo=wr:=⟨_,rfl⟩;by_cases hv7:v<7
  ·have i1:(v:Int)<7:=by omega
   go_wp2;go_loopw [4,5] (fun b i wr=> ∃k:Nat,k<=l.length/\i=.int .i64 k/\b=.int .i64 (bgK l v k:Nat)/\wr=wo) (fun _ i _=>l.length-(intOf i).toNat);case atStart=>exact⟨0,Nat.zero_le _,rfl,rfl,rfl⟩
   case round=>
    obtain⟨k,hk,rfl,rfl,rfl⟩:=hrel;have hbl:=bgK_le l v k;have Hb1:Hid (((l.getD k 0).testBit v=false\/(laK l k).testBit v=true)->bgK l v (k+1)=bgK l v k):=fun h=>bgK_no h
    have Hb2:Hid ((l.getD k 0).testBit v=true->(laK l k).testBit v=false->bgK l v (k+1)=bgK l v k+1):=fun h1 h2=>bgK_yes h1 h2
    by_cases hkl:k<l.length
    ·have i2:(k:Int)<l.length:=by omega
     obtain⟨b0,o0,rfl⟩:=HL.addr (by omega);have p0:=HL.at hkl;have e:l[k]=l.getD k 0:=by simp[List.getD,hkl]
     rw[e] at p0;have hx:l.getD k 0<128:=by rw[<-e];exact Hlt.out _ (List.getElem_mem hkl)
     obtain⟨x,hx'⟩: ∃x,x=l.getD k 0:=⟨_,rfl⟩;rw[<-hx'] at p0 hx Hb1 Hb2;have E1:=and_one_i64 (x:Int) v (by omega) (by omega);rw[Int.toNat_natCast] at E1;have s1:IntKind.i64.wrap (((bgK l v k:Nat):Int)+1)=((bgK l v k+1:Nat):Int):=by rw[Go.IntWalk.i64_in _ (by omega)];simp
     clear hx' e;cases hb:x.testBit v
     ·rw[hb] at E1;have Hs:Hid (bgK l v (k+1)=bgK l v k):=Hb1.out (.inl hb);clear hb;go_wp2;go_roundw;case rel=>exact⟨k+1,by omega,by go_num,by rw[Hs.out],by first|rfl|trivial⟩
      case measure=>simp[intOf]<;>omega
     ·rw[hb] at E1;by_cases hk0:k=0
      ·subst hk0;have Hs:Hid (bgK l v (0+1)=bgK l v 0+1):=Hb2.out hb (by simp[laK]);have p4:=p0;rw[Nat.add_zero] at p4;clear hb;go_wp2;go_roundw;case rel=>exact⟨1,by omega,by go_num,by show _=Value.int .i64 ((bgK l v (0+1):Nat):Int);rw[Hs.out];first|rfl|exact congrArg (Value.int .i64) s1,by first|rfl|trivial⟩
       case measure=>simp[intOf]<;>omega
      ·obtain⟨j,rfl⟩: ∃j,k=j+1:=⟨k-1,by omega⟩;have p3:=HL.at (j:=j) (by omega);have e3:l[j]'(by omega)=l.getD j 0:=by simp[List.getD,show j<l.length by omega]
       rw[e3] at p3;have hy:l.getD j 0<128:=by rw[<-e3];exact Hlt.out _ (List.getElem_mem _)
       have Hla:Hid (laK l (j+1)=l.getD j 0):=rfl;obtain⟨y,hy'⟩: ∃y,y=l.getD j 0:=⟨_,rfl⟩;rw[<-hy'] at p3 hy Hla;have E3:=and_one_i64' (y:Int) v (by omega) (by omega);rw[Int.toNat_natCast] at E3;have hk1:(((j+1:Nat):Int)==0)=false:=by simp;omega
       have s2:IntKind.i64.wrap (((j+1:Nat):Int)-1)=(j:Int):=by rw[Go.IntWalk.i64_in _ (by omega)];omega
       have s4:wrap64 (((j+1:Nat):Int)-1)=(j:Int):=by rw[Go.IntWalk.wrap64_in _ (by omega)];omega
       have i5:(j:Int)<l.length:=by omega
       clear hy' e3 hk0;cases hb3:y.testBit v
       ·rw[hb3] at E3;have Hs:Hid (bgK l v (j+1+1)=bgK l v (j+1)+1):=Hb2.out hb (by rw[Hla.out];exact hb3);clear hb hb3;go_wp2;go_roundw;case rel=>exact⟨j+1+1,by omega,by go_num,by rw[Hs.out];first|rfl|exact congrArg (Value.int .i64) s1,by first|rfl|trivial⟩
        case measure=>simp[intOf]<;>omega
       ·rw[hb3] at E3;have Hs:Hid (bgK l v (j+1+1)=bgK l v (j+1)):=Hb1.out (.inr (by rw[Hla.out];exact hb3));clear hb hb3;go_wp2;go_roundw;case rel=>exact⟨j+1+1,by omega,by go_num,by rw[Hs.out],by first|rfl|trivial⟩
        case measure=>simp[intOf]<;>omega
    ·obtain rfl:l.length=k:=by omega
     obtain⟨B,hB⟩: ∃B,B=bgK l v l.length:=⟨_,rfl⟩;rw[<-hB] at hbl ⊢;by_cases h1:1<B
     ·have i3:(1:Int)<B:=by omega
      have Hn:Hid (coB l=false):=coB_no hv7 (by rw[<-hB];exact h1);clear hB h1;go_wp2;go_ret;exact⟨ret_bool Hn.symm,rfl⟩
     ·have i3:(B:Int)<=1:=by omega
      have Hy:Hid (∀u,u<v+1->bgK l u l.length<=1):=fun u hu=>by
       by_cases huv:u<v
       ·exact hall.out u huv
       ·obtain rfl:u=v:=by omega
        rw[<-hB];omega
      clear hB h1;go_wp2;go_roundw;case rel=>exact⟨v+1,by omega,by go_num,Hy,by first|rfl|trivial⟩
      case measure=>simp[intOf]<;>omega
  ·have Hy:Hid (coB l=true):=coB_yes fun u hu=>hall.out u (by omega)
   have i1:(7:Int)<=v:=by omega
   go_wp2;go_ret;exact⟨ret_bool Hy.symm,rfl⟩
end Go.Proofs.YtfabbohijhjpcaaGreatDoor
