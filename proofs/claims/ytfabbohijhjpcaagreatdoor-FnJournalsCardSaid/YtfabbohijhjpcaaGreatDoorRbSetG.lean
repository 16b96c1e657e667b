/- Lemmas. -/
import Derived.Test.YtfabbohijhjpcaaGreatDoorRbTake
/-
-/
namespace Go.Proofs.YtfabbohijhjpcaaGreatDoor
open Go.RowKit
set_option maxHeartbeats 3200000
def edZ (x:Nat->Int) (a b:Int):Bool:=(rw_ x a.toNat).testBit b.toNat
noncomputable def ajB (sz:Int) (m:Nat) (x:Nat->Int) (l:List Int) (J:Nat->Nat->Bool):Bool:=
 vrB sz m x l&&(List.range l.length).all fun k=>(List.range k).all fun i=>edZ x (l.getD i 0) (l.getD k 0)==J i k
section
variable {sz:Int} {m:Nat} {x:Nat->Int} {l:List Int} {J:Nat->Nat->Bool}
theorem ajB_bad (h:vrB sz m x l=false):ajB sz m x l J=false:=by unfold ajB;rw[h];rfl
theorem ajB_no {i k:Nat} (hi:i<k) (hk:k<l.length) (h:edZ x (l.getD i 0) (l.getD k 0)≠J i k):ajB sz m x l J=false:=by
 unfold ajB;have:((List.range l.length).all fun k=>(List.range k).all fun i=>edZ x (l.getD i 0) (l.getD k 0)==J i k)=false:=by
  rw[List.all_eq_false];refine⟨k,List.mem_range.2 hk,?_⟩;rw[Bool.not_eq_true,List.all_eq_false];exact⟨i,List.mem_range.2 hi,by simpa using h⟩
 rw[this,Bool.and_false]
theorem ajB_yes (h:vrB sz m x l=true) (hall: ∀k,k<l.length-> ∀i,i<k->edZ x (l.getD i 0) (l.getD k 0)=J i k):ajB sz m x l J=true:=by
 unfold ajB;rw[h,Bool.true_and,List.all_eq_true];intro k hk;rw[List.all_eq_true];intro i hi;simpa using hall k (List.mem_range.1 hk) i (List.mem_range.1 hi)
theorem vrB_parts (h:vrB sz m x l=true):okB sz m x=true/\VZ m l:=by
 unfold vrB at h;rw[Bool.and_eq_true] at h;exact⟨h.1,vzB_iff.1 h.2⟩
end
def pathJ (i k:Nat):Bool:=k==i+1
noncomputable def ipB (sz:Int) (m:Nat) (x:Nat->Int) (l:List Int):Bool:=decide (0<l.length)&&ajB sz m x l pathJ
set_option maxRecDepth 100000 in
theorem areJoined_g {fn:FuncId} {caps:Array Value} {J:Nat->Nat->Bool} (hef:Ent fn) (sz:Int) (A:Option Addr) (m c:Nat) (x:Nat->Int) (Al:Option Addr) (n cl:Nat) (l:List Int) (w:World) (h:GA w A m c x) (hl:LI w Al n cl l) (hm:m<=1048576) (hn:n<=1048576)
 (HF: ∀(i k:Nat) (z:World),i<k->k<n->Below w.heap.size w z->Calls Tryz.prog fn (#[.int .i64 i,.int .i64 k]++caps) z (fun e z'=>e=.returned (.bool (J i k))/\Below z.heap.size z z')):
 Calls Tryz.prog 280 #[.agg #[.int .i64 sz,.slice A m c],.slice Al n cl,.func (.func fn) #[] caps] w fun e w'=>e=.returned (.bool (ajB sz m x l J))/\Below w.heap.size w w':=by
 unfold Ent at hef;obtain⟨W,hW⟩: ∃W,W=(w.alloc (Obj.cells #[.int .i64 sz,.slice A m c] 26)):=⟨_,rfl⟩;have HB:Hid (From w W):=by rw[hW];exact From.alloc _ _
 have HK:=hh_ (h.keep HB.below);have HL:=hh_ (hl.keep HB.below);have HC:Hid (GC W w.heap.size sz A m c):=by rw[hW];exact GC.new _ _ _ _ _
 have HW:=hh_ hW;have HN:=hh_ hl.len;have HF:=hh_ HF;clear hW h hl;go_enter Tryz.func280,Tryz.ntmps280;obtain⟨e0,e1⟩:=gc_ HC;go_wp2_with fail
 rw[<-HW.out];refine(areVertices_z sz A m c x Al n cl l W HK HL.out hm hn).mono ?_;rintro e w1 ⟨rfl,hb1⟩;clear HW;clear e0 e1;replace HB:=hh_ (HB.keep hb1);replace HK:=hh_ (HK.keep hb1);replace HL:=hh_ (HL.keep hb1);replace HC:=hh_ (HC.keep hb1);clear hb1;obtain⟨e0,e1⟩:=gc_ HC;cases hv:vrB sz m x l
 ·have hno:Hid (ajB sz m x l J=false):=ajB_bad hv;clear hv;go_wp2;go_ret;exact⟨ret_bool hno.symm,HB.below⟩
 ·obtain⟨ho,hV⟩:=vrB_parts hv;obtain⟨_,es,vg0,_⟩:=okB_ok' ho;subst es;have hn7:=vg0.n7;have HG:Hid (GV w1 A m c (rw_ x)):=HK.gv ho;have HV:=hh_ hV;have Hv:=hh_ hv;have hn7':n<=7:=by rw[HN.out];have:=hV.len;omega
  obtain⟨b,o,rfl⟩:=HG.addr;clear hv ho hV vg0 e0;go_wp2;go_loopw [15] (fun k wr=> ∃K:Nat,K<=n/\k=.int .i64 K/\Hid (∀k,k<K-> ∀i,i<k->edZ x (l.getD i 0) (l.getD k 0)=J i k)/\Hid (From w1 wr)) (fun k _=>n-(intOf k).toNat);case atStart=>exact⟨0,Nat.zero_le _,rfl,fun k hk=>absurd hk (by omega),From.refl _⟩
  case round=>
   obtain⟨K,hK,rfl,hall,HR⟩:=hrel;by_cases hlt:K<n
   ·have i1:(K:Int)<n:=by omega
    have HRo:=HR;have Hlt:=hh_ hlt;go_wp2;go_loopw [19] (fun i wz=> ∃j:Nat,j<=K/\i=.int .i64 j/\Hid (∀i,i<j->edZ x (l.getD i 0) (l.getD K 0)=J i K)/\Hid (From w1 wz)) (fun i _=>K-(intOf i).toNat);case atStart=>exact⟨0,Nat.zero_le _,rfl,fun i hi=>absurd hi (by omega),HRo⟩
    case round=>
     clear HR HRo;obtain⟨j,hj,rfl,hin,HR⟩:=hrel;by_cases hjK:j<K
     ·have i2:(j:Int)<K:=by omega
      have HLr:=hh_ (HL.keep HR.below);have HGr:=hh_ (HG.keep HR.below);have HCr:=hh_ (HC.keep HR.below);have HBr:=hh_ (HB.keep HR.below);have e1:=HCr.c1;obtain⟨b2,o2,rfl⟩:=HLr.addr (by omega);have p0:=HLr.at (j:=j) (by omega);have p1:=HLr.at (j:=K) (by omega);have hmj:=getD_mem (l:=l) (k:=j) (by rw[<-HN.out];omega);have hmk:=getD_mem (l:=l) (k:=K) (by rw[<-HN.out];omega);obtain⟨a0,a1⟩:=HV.out.2 _ hmj;obtain⟨d0,d1⟩:=HV.out.2 _ hmk;obtain⟨u,hu⟩:=Int.eq_ofNat_of_zero_le a0;obtain⟨v,hvv⟩:=Int.eq_ofNat_of_zero_le d0;have Hed:Hid (edZ x (l.getD j 0) (l.getD K 0)=(rw_ x u).testBit v):=by show _=_;unfold edZ;rw[hu,hvv,Int.toNat_natCast,Int.toNat_natCast]
      rw[hu] at p0 a1;rw[hvv] at p1 d1;have q0:=HGr.row (v:=u) (by omega);have hr:=HGr.vg.lt128 (v:=u) (by omega);obtain⟨y,hy⟩: ∃y,y=rw_ x u:=⟨_,rfl⟩;rw[<-hy] at q0 hr Hed;have K1:Hid (∀z:World,Calls Tryz.prog 44 #[.int .i64 (y:Int),.int .i64 v] z fun e w'=>e=.returned (.bool (y.testBit v))/\Below z.heap.size z w'):=fun z=>(has_v z (by omega) (by omega)).mono fun _ _ ⟨h1,h2⟩=>⟨h1,h2▸br_⟩
      have K2:Hid (∀z:World,Below wr.heap.size wr z->Calls Tryz.prog fn (#[.int .i64 j,.int .i64 K]++caps) z fun e z'=>e=.returned (.bool (J j K))/\Below z.heap.size z z'):=fun z hz=>HF.out j K z hjK Hlt.out (HBr.keep hz).below
      obtain⟨t,ht⟩: ∃t,t=y.testBit v:=⟨_,rfl⟩;rw[<-ht] at K1 Hed;obtain⟨t2,ht2⟩: ∃t2,t2=J j K:=⟨_,rfl⟩;rw[<-ht2] at K2;have Ht2:=hh_ ht2;have i3:(j:Int)<n:=by omega
      clear hmj hmk hu hvv hy ht ht2 a0 d0 e1;have e1:=HCr.c1;go_wp2;obtain⟨HSC,HZ0,HS1⟩:=hsc4 e1 p0 p1 q0;have KR1:Hid (∀z:World,Below wr.heap.size wr z->_):=fun z hz=>K1.out z
      have KR2:Hid (∀z:World,Below wr.heap.size wr z->_):=fun z hz=>K2.out z hz
      go_region_held3 (fun z=>Below wr.heap.size wr z/\z.cell? ⟨w.heap.size,1,none⟩=some (.slice (some ⟨b,o,none⟩) m c)/\z.cell? ⟨b2,o2+j,none⟩=some (.int .i64 u)/\z.cell? ⟨b2,o2+K,none⟩=some (.int .i64 v)/\z.cell? ⟨b,o+u,none⟩=some (.int .i64 (y:Int)))
       (first|exact HS1.out|assumption|exact HSC.out _ hz3|exact HSC.out _ hz2|fail)
       (first|(go_at_call 44;((with_reducible refine(KR1.out _ HZ0.out).mono ?_);rintro e w2 ⟨rfl,hb2⟩;have hz2:=bl_trans HZ0.out hb2))|(((with_reducible refine(KR2.out _ hz2).mono ?_);rintro e w3 ⟨rfl,hb3⟩;have hz3:=bl_trans hz2 hb3)))
      clear e1;replace HCr:=hh_ (HCr.keep hz3);replace HR:=hh_ (HR.keep hz3);replace HBr:=hh_ (HBr.keep hz3);clear hb2 hz2 hb3 hz3 HSC HZ0 HS1 KR1 KR2;have e1:=HCr.c1;cases t
      ·cases t2
       ·go_wp2;go_roundw;case rel=>
         refine⟨j+1,by omega,by go_num,fun i hi=> ?_,HR⟩;by_cases hij:i<j
         ·exact hin.out i hij
         ·obtain rfl:i=j:=by omega
          rw[Hed.out,<-Ht2.out]
        case measure=>simp[intOf]<;>omega
       ·have hno:Hid (ajB (m:Int) m x l J=false):=ajB_no (i:=j) (k:=K) hjK (by rw[<-HN.out];exact Hlt.out) (by rw[Hed.out,<-Ht2.out];decide);go_wp2;go_ret;exact⟨ret_bool hno.symm,HBr.below⟩
      ·cases t2
       ·have hno:Hid (ajB (m:Int) m x l J=false):=ajB_no (i:=j) (k:=K) hjK (by rw[<-HN.out];exact Hlt.out) (by rw[Hed.out,<-Ht2.out];decide);go_wp2;go_ret;exact⟨ret_bool hno.symm,HBr.below⟩
       ·go_wp2;go_roundw;case rel=>
         refine⟨j+1,by omega,by go_num,fun i hi=> ?_,HR⟩;by_cases hij:i<j
         ·exact hin.out i hij
         ·obtain rfl:i=j:=by omega
          rw[Hed.out,<-Ht2.out]
        case measure=>simp[intOf]<;>omega
     ·obtain rfl:j=K:=by omega
      go_wp2;go_roundw;case rel=>
       refine⟨j+1,by omega,by go_num,fun k hk i hi=> ?_,HR⟩;by_cases hkj:k<j
       ·exact hall.out k hkj i hi
       ·obtain rfl:k=j:=by omega
        exact hin.out i hi
      case measure=>simp[intOf];omega
   ·have hyes:Hid (ajB (m:Int) m x l J=true):=ajB_yes Hv.out fun k hk i hi=>hall.out k (by rw[<-HN.out] at hk;omega) i hi
    have i1:(n:Int)<=K:=by omega
    have HBr:=hh_ (HB.keep HR.below);go_wp2;go_ret;exact⟨ret_bool hyes.symm,HBr.below⟩
theorem pathJ_c (i k:Nat) (z:World) (hi:i<=1048576):Calls Tryz.prog 281 (#[.int .i64 i,.int .i64 k]++ #[]) z (fun e z'=>e=.returned (.bool (pathJ i k))/\Below z.heap.size z z'):=by
 have hd:Hid (((k:Int)==(i:Int)+1)=pathJ i k):=by
  show _=_;unfold pathJ;rw[Bool.eq_iff_iff];simp only[beq_iff_eq];omega
 show Calls Tryz.prog 281 #[.int .i64 i,.int .i64 k] z _;go_enter Tryz.func281,Tryz.ntmps281;go_wp2;go_ret;exact⟨ret_bool hd.out,br_⟩
section
variable (sz:Int) (A:Option Addr) (m c:Nat) (x:Nat->Int) (Al:Option Addr) (n cl:Nat) (l:List Int) (w:World)
theorem IsInducedPath_i (h:GA w A m c x) (hl:LI w Al n cl l) (hm:m<=1048576) (hn:n<=1048576):
 Calls Tryz.prog 202 #[.agg #[.int .i64 sz,.slice A m c],.slice Al n cl] w fun e w'=>e=.returned (.bool (ipB sz m x l))/\Below w.heap.size w w':=by
 obtain⟨W,hW⟩: ∃W,W=(w.alloc (Obj.cells #[.int .i64 sz,.slice A m c] 26)):=⟨_,rfl⟩;have HB:Hid (From w W):=by rw[hW];exact From.alloc _ _
 have HC:Hid (GC W w.heap.size sz A m c):=by rw[hW];exact GC.new _ _ _ _ _
 have K:=hh_ (areJoined_g (J:=pathJ) (fn:=281) (caps:= #[]) (ent_of Tryz.func281 (by kernel_rfl) rfl) sz A m c x Al n cl l W (h.keep HB.below) (hl.keep HB.below) hm hn (fun i k z h1 h2 _=>pathJ_c i k z (by omega)));have HN:=hh_ hl.len;have HW:=hh_ hW;obtain⟨e0,e1⟩:=gc_ HC;clear hW h hl;by_cases h0:0<n
 ·have hd:Hid (ipB sz m x l=ajB sz m x l pathJ):=by show _=_;unfold ipB;rw[decide_eq_true (by rw[<-HN.out];exact h0)];rfl
  have i1:(0:Int)<n:=by omega
  go_enter Tryz.func202,Tryz.ntmps202;go_wp2_with fail
  rw[<-HW.out];clear HW;refine K.mono ?_;rintro e w1 ⟨rfl,hb1⟩;have HB1:=hh_ (HB.keep hb1);clear hb1;go_wp2;go_ret;exact⟨ret_bool hd.symm,HB1.below⟩
 ·obtain rfl:n=0:=by omega
  have hd:Hid (ipB sz m x l=false):=by show _=_;unfold ipB;rw[decide_eq_false (by rw[<-HN.out];omega)];rfl
  go_enter Tryz.func202,Tryz.ntmps202;go_wp2;rw[<-HW.out];go_ret;exact⟨ret_bool hd.symm,HB.below⟩
end
def coR (r:Nat->Nat) (m v:Nat):Nat:=(2^m-1)^^^(r v|||2^v)
section
variable {m:Nat} {r:Nat->Nat}
theorem or_pow_lt (vg:VG m r) {v:Nat} (hv:v<m):r v|||2^v<2^m:=Nat.or_lt_two_pow (vg.lt v hv) (Nat.pow_lt_pow_right (by omega) hv)
theorem coR_sub (vg:VG m r) {v:Nat} (hv:v<m):coR r m v=2^m-1-r v-2^v/\r v+2^v<=2^m-1:=by
 have h1:=or_pow_lt vg hv;have h2:r v+2^v=r v|||2^v:=or_of_add (vg.irr v hv);unfold coR;rw[full_sub vg.n7 h1,<-h2];rw[<-h2] at h1;omega
theorem coR_bit {v u:Nat} (hu:u<m):(coR r m v).testBit u=(!((r v).testBit u||decide (v=u))):=by
 unfold coR;rw[Nat.testBit_xor,Nat.testBit_two_pow_sub_one,Nat.testBit_or,Nat.testBit_two_pow,decide_eq_true hu];simp
theorem coR_vg (vg:VG m r):VG m (coR r m) where
 n1:=vg.n1
 n7:=vg.n7
 lt:=fun v hv=>by unfold coR;exact full_lt vg.n7 (or_pow_lt vg hv)
 irr:=fun v hv=>by rw[coR_bit hv];simp
 sym:=fun v w hv hw=>by
  rw[coR_bit hw,coR_bit hv,vg.sym v w hv hw]
  by_cases h:v=w
  ·subst h;rfl
  ·rw[decide_eq_false h,decide_eq_false (fun e=>h e.symm)]
end
set_option maxHeartbeats 1000000
def splB (r:Nat->Nat) (m s:Nat):Bool:=cliq r s&&indB r ((2^m-1)^^^s)
section
variable (sz:Int) (A:Option Addr) (m c:Nat) (x:Nat->Int) (s:Int) (w:World)
theorem IsSet_sg (h:GA w A m c x) (hm:m<=1048576):
 Calls Tryz.prog 227 #[.agg #[.int .i64 sz,.slice A m c],.int .i64 s] w fun e w'=>e=.returned (.bool (setB sz m x s))/\Below w.heap.size w w':=by
 cases ho:okB sz m x
 ·have Hn:Hid (setB sz m x s=false):=by show _=_;unfold setB;rw[ho];rfl
  obtain⟨W,hW,HB,HK,HC⟩:=gaW sz h;have HW:=hh_ hW;have Ho:=hh_ ho;clear hW h ho;go_enter Tryz.func227,Tryz.ntmps227;obtain⟨e0,e1⟩:=gc_ HC;go_wp2_with fail
  rw[<-HW.out];clear HW;refine(IsGraph_sany sz A m c x W W.heap.size HK.rd nr_ hm).mono ?_;rintro e w1 ⟨rfl,hb1⟩;rw[Ho.out];clear e0 e1;obtain⟨HB,HK,HC,e0,e1⟩:=kC_ HB HK HC hb1;clear hb1;go_wp2;go_ret;exact⟨ret_bool Hn.symm,HB.below⟩
 obtain⟨_,es,vg0,_⟩:=okB_ok' ho;subst es;have hn7:=vg0.n7;have HG0:GV w A m c (rw_ x):=h.gv ho;by_cases hs:0<=s/\s<2^m
 ·have hb:setB (m:Int) m x s=true:=by unfold setB;rw[ho,decide_eq_true hs];rfl
  obtain⟨_,_,t,rfl,ht⟩:=setB_parts hb;rw[hb];exact IsSet_sv HG0 ht
 ·have Hn:Hid (setB (m:Int) m x s=false):=by show _=_;unfold setB;rw[ho,decide_eq_false hs];rfl
  obtain⟨F,hF⟩: ∃F:Int,F=2^m:=⟨_,rfl⟩;have p1:IntKind.i64.wrap ((2:Int)^m)=F:=by rw[hF];exact pow_shl m hn7
  have p2:wrap64 ((2:Int)^m)=F:=by
   have:=two_pow_int m hn7;rw[hF];exact Go.IntWalk.wrap64_in _ (by omega)
  rw[<-hF] at hs;obtain⟨W,hW⟩: ∃W,W=(w.alloc (Obj.cells #[.int .i64 m,.slice A m c] 26)):=⟨_,rfl⟩;have HB:Hid (From w W):=by rw[hW];exact From.alloc _ _
  have HK:=hh_ (h.keep HB.below);have HC:Hid (GC W w.heap.size m A m c):=by rw[hW];exact GC.new _ _ _ _ _
  have HW:=hh_ hW;have Ho:=hh_ ho;clear hW h ho vg0 HG0 hF;go_enter Tryz.func227,Tryz.ntmps227;obtain⟨e0,e1⟩:=gc_ HC;go_wp2_with fail
  rw[<-HW.out];clear HW;refine(IsGraph_sany (m:Int) A m c x W W.heap.size HK.rd nr_ hm).mono ?_;rintro e w1 ⟨rfl,hb1⟩;rw[Ho.out];clear e0 e1;obtain⟨HB,HK,HC,e0,e1⟩:=kC_ HB HK HC hb1;clear hb1;by_cases h0:0<=s
  ·have i1:F<=s:=by omega
   clear hs;go_wp2;go_ret;exact⟨ret_bool (by rw[Hn.out];first|rfl|exact decide_eq_false (by omega)),HB.below⟩
  ·have i1:s<0:=by omega
   clear hs h0;go_wp2;go_ret;exact⟨ret_bool Hn.symm,HB.below⟩
end
section
variable {A:Option Addr} {m c:Nat} {r:Nat->Nat} {w:World} {s:Nat}
theorem comp_lt (hm:m<=7) (hs:s<2^m):(2^m-1)^^^s<2^m:=full_lt hm hs
theorem IsSplitPartition_v (h:GV w A m c r) (hs:s<2^m):
 Calls Tryz.prog 243 #[.agg #[.int .i64 m,.slice A m c],.int .i64 s] w fun e w'=>e=.returned (.bool (splB r m s))/\Below w.heap.size w w':=by
 have hn7:=h.vg.n7;have h128:=two_pow_le hn7;have hcl:=comp_lt hn7 hs;have E:=i64_andNot_nat (2^m-1) s (by omega) (by omega);rw[full_and hs] at E;obtain⟨t,ht⟩: ∃t,t=(2^m-1)^^^s:=⟨_,rfl⟩;obtain⟨F,hF⟩: ∃F,F=2^m-1:=⟨_,rfl⟩;have KA:Hid (∀z:World,Calls Tryz.prog 225 #[.agg #[.int .i64 m,.slice A m c]] z fun e w'=>e=.returned (.int .i64 (F:Nat))/\Below z.heap.size z w'):=by rw[hF];exact fun z=>all_any m A c z hn7
 rw[<-ht] at hcl;rw[<-ht,<-hF] at E;have Ht:=hh_ ht;clear ht hF;obtain⟨W,hW,HB,HG⟩:=gbW h;have HW:=hh_ hW;clear hW h;obtain⟨e0,e1⟩:=gx_ HG;have HG0:=HG;have KI:Hid (∀z:World,Below W.heap.size W z->Calls Tryz.prog 248 #[.agg #[.int .i64 m,.slice A m c],.int .i64 (t:Int)] z fun e w'=>e=.returned (.bool (indB r t))/\Below z.heap.size z w'):=fun z hz=>IsIndependent_v (HG0.gv.keep hz) hcl
 have KC:Hid (∀z:World,Below W.heap.size W z->Calls Tryz.prog 309 #[.agg #[.int .i64 m,.slice A m c],.int .i64 (s:Int)] z fun e w'=>e=.returned (.bool (cliq r s))/\Below z.heap.size z w'):=fun z hz=>IsClique_v (HG0.gv.keep hz) hs
 go_enter Tryz.func243,Tryz.ntmps243;cases hc:cliq r s
 ·have Hn:Hid (splB r m s=false):=by show _=_;unfold splB;rw[hc];rfl
  rw[hc] at KC;clear hc;go_wp2;rw[<-HW.out];clear HW;obtain⟨HSC,HZ0,HS1⟩:=hsc2 e0 e1;have KR1:Hid (∀z:World,Below W.heap.size W z->_):=fun z hz=>KC.out _ hz
  refine wpH HS1.out (fun hHeld=> ?_);refine pcY 0 ?_;refine ptY ?_;refine w1H 2 (fun K hK=> ?_);go_simp;go_at_call 309;refine(KR1.out _ HZ0.out).mono ?_
  rintro e w1 ⟨rfl,hb1⟩;have hz1:=bl_trans HZ0.out hb1;refine hK.out _ _ (HSC.out _ hz1) (fun hHeld=> ?_);clear hK K;try simp only[Act.put,sl0,sl1,sl2]
  refine ptY ?_;iterate 6 (refine ptN ?_)
  iterate 2 (refine ptY ?_)
  refine wpAnyH_done (by kernel_rfl) ?_ _;clear e0 e1;replace HB:=hh_ (HB.keep hz1);replace HG:=hh_ (HG.keep hz1);clear hb1 hz1 HSC HZ0 HS1 KR1;obtain⟨e0,e1⟩:=gx_ HG;go_wp2;go_ret;exact⟨ret_bool Hn.symm,HB.below⟩
 ·have Hn:Hid (splB r m s=indB r t):=by show _=_;unfold splB;rw[hc,Ht.out];rfl
  rw[hc] at KC;clear hc;go_wp2;rw[<-HW.out];clear HW;obtain⟨HSC,HZ0,HS1⟩:=hsc2 e0 e1;have KR1:Hid (∀z:World,Below W.heap.size W z->_):=fun z hz=>KC.out _ hz
  have KR2:Hid (∀z:World,Below W.heap.size W z->_):=fun z hz=>KA.out z
  have KR3:Hid (∀z:World,Below W.heap.size W z->_):=fun z hz=>KI.out _ hz
  refine wpH HS1.out (fun hHeld=> ?_);refine pcY 0 ?_;refine ptY ?_;refine w1H 2 (fun K hK=> ?_);go_simp;go_at_call 309;refine(KR1.out _ HZ0.out).mono ?_
  rintro e w2 ⟨rfl,hb2⟩;have hz2:=bl_trans HZ0.out hb2;refine hK.out _ _ (HSC.out _ hz2) (fun hHeld=> ?_);clear hK K;try simp only[Act.put,sl0,sl1,sl2]
  iterate 3 (refine ptY ?_)
  refine pcY 7 ?_;refine w1H 6 (fun K hK=> ?_);go_simp;go_at_call 225;refine(KR2.out _ hz2).mono ?_
  rintro e w3 ⟨rfl,hb3⟩;have hz3:=bl_trans hz2 hb3;refine hK.out _ _ (HSC.out _ hz3) (fun hHeld=> ?_);clear hK K;try simp only[Act.put,sl0,sl1,sl2]
  refine pcY 8 ?_;refine w1H 9 (fun K hK=> ?_);go_simp;go_at_call 248;refine(KR3.out _ hz3).mono ?_
  rintro e w4 ⟨rfl,hb4⟩;have hz4:=bl_trans hz3 hb4;refine hK.out _ _ (HSC.out _ hz4) (fun hHeld=> ?_);clear hK K;try simp only[Act.put,sl0,sl1,sl2]
  iterate 2 (refine ptY ?_)
  refine wpAnyH_done (by kernel_rfl) ?_ _;clear e0 e1;replace HB:=hh_ (HB.keep hz4);replace HG:=hh_ (HG.keep hz4);clear hb2 hz2 hb3 hz3 hb4 hz4 HSC HZ0 HS1 KR1 KR2 KR3;obtain⟨e0,e1⟩:=gx_ HG;go_wp2;go_ret;exact⟨ret_bool Hn.symm,HB.below⟩
theorem IsSplitPartition_sv (h:GV w A m c r) (hs:s<2^m):
 Calls Tryz.prog 174 #[.agg #[.int .i64 m,.slice A m c],.int .i64 s] w fun e w'=>e=.returned (.bool (splB r m s))/\Below w.heap.size w w':=by
 have hn7:=h.vg.n7;have h128:=two_pow_le hn7;have hcl:=comp_lt hn7 hs;have hfs:=full_sub hn7 hs;obtain⟨t,ht⟩: ∃t,t=(2^m-1)^^^s:=⟨_,rfl⟩;obtain⟨F,hF⟩: ∃F,F=2^m:=⟨_,rfl⟩;have p1:IntKind.i64.wrap ((2:Int)^m)=(F:Int):=by rw[pow_shl m hn7,hF];simp
 rw[<-ht] at hcl;rw[<-ht,<-hF] at hfs;have hpos:=Nat.two_pow_pos m;rw[<-hF] at hpos h128 hs;have s2:IntKind.i64.wrap ((F:Int)-1)=(F:Int)-1:=Go.IntWalk.i64_in _ (by omega);have s3:IntKind.i64.wrap ((F:Int)-1-(s:Int))=(t:Int):=by rw[Go.IntWalk.i64_in _ (by omega)];omega
 have Ht:=hh_ ht;have HF:=hh_ hF;clear ht hF hfs;obtain⟨W,hW,HB,HG⟩:=gbW h;have HW:=hh_ hW;clear hW h;obtain⟨e0,e1⟩:=gx_ HG;have HG0:=HG;have KI:Hid (∀z:World,Below W.heap.size W z->Calls Tryz.prog 178 #[.agg #[.int .i64 m,.slice A m c],.int .i64 (t:Int)] z fun e w'=>e=.returned (.bool (indB r t))/\Below z.heap.size z w'):=fun z hz=>IsIndependent_sv (HG0.gv.keep hz) hcl
 have KC:Hid (∀z:World,Below W.heap.size W z->Calls Tryz.prog 255 #[.agg #[.int .i64 m,.slice A m c],.int .i64 (s:Int)] z fun e w'=>e=.returned (.bool (cliq r s))/\Below z.heap.size z w'):=fun z hz=>IsClique_sv (HG0.gv.keep hz) (by rw[<-HF.out];exact hs)
 go_enter Tryz.func174,Tryz.ntmps174;cases hc:cliq r s
 ·have Hn:Hid (splB r m s=false):=by show _=_;unfold splB;rw[hc];rfl
  rw[hc] at KC;clear hc;go_wp2;rw[<-HW.out];clear HW;obtain⟨HSC,HZ0,HS1⟩:=hsc2 e0 e1;have KR1:Hid (∀z:World,Below W.heap.size W z->_):=fun z hz=>KC.out _ hz
  refine wpH HS1.out (fun hHeld=> ?_);refine pcY 0 ?_;refine ptY ?_;refine w1H 2 (fun K hK=> ?_);go_simp;go_at_call 255;refine(KR1.out _ HZ0.out).mono ?_
  rintro e w1 ⟨rfl,hb1⟩;have hz1:=bl_trans HZ0.out hb1;refine hK.out _ _ (HSC.out _ hz1) (fun hHeld=> ?_);clear hK K;try simp only[Act.put,sl0,sl1,sl2]
  refine ptY ?_;iterate 8 (refine ptN ?_)
  iterate 2 (refine ptY ?_)
  refine wpAnyH_done (by kernel_rfl) ?_ _;clear e0 e1;replace HB:=hh_ (HB.keep hz1);replace HG:=hh_ (HG.keep hz1);clear hb1 hz1 HSC HZ0 HS1 KR1;obtain⟨e0,e1⟩:=gx_ HG;go_wp2;go_ret;exact⟨ret_bool Hn.symm,HB.below⟩
 ·have Hn:Hid (splB r m s=indB r t):=by show _=_;unfold splB;rw[hc,Ht.out];rfl
  rw[hc] at KC;clear hc;go_wp2;rw[<-HW.out];clear HW;obtain⟨HSC,HZ0,HS1⟩:=hsc2 e0 e1;have KR1:Hid (∀z:World,Below W.heap.size W z->_):=fun z hz=>KC.out _ hz
  have KR2:Hid (∀z:World,Below W.heap.size W z->_):=fun z hz=>KI.out _ hz
  refine wpH HS1.out (fun hHeld=> ?_);refine pcY 0 ?_;refine ptY ?_;refine w1H 2 (fun K hK=> ?_);go_simp;go_at_call 255;refine(KR1.out _ HZ0.out).mono ?_
  rintro e w2 ⟨rfl,hb2⟩;have hz2:=bl_trans HZ0.out hb2;refine hK.out _ _ (HSC.out _ hz2) (fun hHeld=> ?_);clear hK K;try simp only[Act.put,sl0,sl1,sl2]
  iterate 8 (refine ptY ?_)
  refine w1H 11 (fun K hK=> ?_);go_simp;go_at_call 178;refine(KR2.out _ hz2).mono ?_
  rintro e w3 ⟨rfl,hb3⟩;have hz3:=bl_trans hz2 hb3;refine hK.out _ _ (HSC.out _ hz3) (fun hHeld=> ?_);clear hK K;try simp only[Act.put,sl0,sl1,sl2]
  iterate 2 (refine ptY ?_)
  refine wpAnyH_done (by kernel_rfl) ?_ _;clear e0 e1;replace HB:=hh_ (HB.keep hz3);replace HG:=hh_ (HG.keep hz3);clear hb2 hz2 hb3 hz3 HSC HZ0 HS1 KR1 KR2;obtain⟨e0,e1⟩:=gx_ HG;go_wp2;go_ret;exact⟨ret_bool Hn.symm,HB.below⟩
end
section
variable (sz:Int) (A:Option Addr) (m c:Nat) (x:Nat->Int) (s:Int) (w:World)
end
end Go.Proofs.YtfabbohijhjpcaaGreatDoor
