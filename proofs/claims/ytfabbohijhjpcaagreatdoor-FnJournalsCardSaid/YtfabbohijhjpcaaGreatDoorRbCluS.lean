/- Lemmas. -/
import Derived.Test.YtfabbohijhjpcaaGreatDoorRbCloS
namespace Go.Proofs.YtfabbohijhjpcaaGreatDoor
open Go.RowKit
set_option maxHeartbeats 6400000
def oneN:Option (List Nat)->Int
 |none=>0
 |some _=>1
section
variable {Q:List Nat} {Aq:Option Addr} {cq:Nat}
set_option maxRecDepth 100000 in
theorem l10Search_v (hQ: ∀s∈Q,s<128) (hQl:Q.length<=128): ∀(k:Nat) (l:List Nat) (Al:Option Addr) (cl:Nat) (w:World) (lo:Nat),l.length+k=Q.length->(∀s∈l,s<128)->LN w Aq cq Q->ON lo w Al cl l->lo<=w.heap.size->
 Calls Tryz.prog 170 #[.slice Aq Q.length cq,.slice Al l.length cl,.int .i64 1] w fun e w'=> ∃A' n' c',e=.returned (.tuple #[.slice A' n' c',.int .i64 (oneN (cqS Q k l))])/\(∀x,cqS Q k l=some x->n'=x.length/\ON lo w' A' c' x)/\Below w.heap.size w w':=by
 have HQ:=hh_ hQ;intro k;induction k with
 |zero=>
  intro l Al cl w lo hlk hlt hq hl hlo;have heq:((l.length:Int)==(Q.length:Int))=true:=by simp;omega
  have heq2:(l.length=Q.length)=True:=by simp;omega
  have Hl:=hh_ hl;clear hlk hlt hq hl;go_enter Tryz.func170,Tryz.ntmps170;go_wp2;go_ret2;exact⟨Al,_,cl,rfl,(fun x hx=>by injection hx with hx;subst hx;exact⟨rfl,Hl.out⟩),br_⟩
 |succ k ih=>
  intro l Al cl w lo hlk hlt hq hl hlo;have IH:=hh_ ih;have Hlt:=hh_ hlt;have HQl:=hh_ hq;have HL:=hh_ hl;have heq:((l.length:Int)==(Q.length:Int))=false:=by simp;omega
  have heq2:(l.length=Q.length)=False:=by simp;omega
  have hl8:l.length<=128:=by omega
  have Hlk:=hh_ hlk;obtain⟨W,hW⟩: ∃W,W=w.alloc (Obj.cells #[] 3):=⟨_,rfl⟩;have HB:Hid (From w W):=by rw[hW];exact From.alloc _ _
  have HW:=hh_ hW;clear ih hlt hq hl hlk hW;go_enter Tryz.func170,Tryz.ntmps170;go_wp2;rw[<-HW.out];clear HW;go_loopw [8,9,10] (fun f n i wr=> ∃j:Nat,j<=Q.length/\i=.int .i64 j/\Hid (From W wr)/\((n=.int .i64 0/\f=.slice (some ⟨w.heap.size,0,none⟩) 0 0/\Hid (∀u,u<j->cqA Q k l u=none))\/(∃x A' c',n=.int .i64 1/\f=.slice A' x.length c'/\Hid (cqS Q (k+1) l=some x)/\Hid (ON lo wr A' c' x)))) (fun _ _ i _=>Q.length-(intOf i).toNat);case atStart=>exact⟨0,Nat.zero_le _,rfl,From.refl _,.inl ⟨rfl,rfl,fun u hu=>absurd hu (by omega)⟩⟩
  case round=>
   obtain⟨j,hj,rfl,HR,hcase⟩:=hrel;have HBr:=hh_ (HB.up HR.out);rcases hcase with ⟨rfl,rfl,hall⟩|⟨x,A',c',rfl,rfl,Hs,HO⟩
   ·by_cases hjl:j<Q.length
    ·have i1:(j:Int)<Q.length:=by omega
     have HQr:=hh_ ((HQl.keep HB.below).keep HR.below);have HLr:=hh_ ((HL.keep HB.below).keep HR.below);obtain⟨b0,o0,rfl⟩:=HQr.addr (by omega);have p0:=HQr.cell hjl;have hv:Q.getD j 0<128:=by
      have e:Q.getD j 0=Q[j]:=by simp[List.getD,hjl]
      rw[e];exact HQ _ (List.getElem_mem _)
     have Hno:Hid (okQ l (Q.getD j 0)=false->cqA Q k l j=none):=fun h=>cqA_no h
     have Hyes:Hid (okQ l (Q.getD j 0)=true->cqA Q k l j=cqS Q k (l++ [Q.getD j 0])):=fun h=>cqA_yes h
     obtain⟨v,hv'⟩: ∃v,v=Q.getD j 0:=⟨_,rfl⟩;rw[<-hv'] at p0 hv Hno Hyes;clear hv';have Hnext:Hid (cqA Q k l j=none-> ∀u,u<j+1->cqA Q k l u=none):=fun h u hu=>by
      by_cases huj:u<j
      ·exact hall.out u huj
      ·obtain rfl:u=j:=by omega
       exact h
     have KH:=hh_ (l8Has_s Al l.length cl l v wr wr.heap.size ⟨rfl,HLr.ln.rd⟩ (by omega));by_cases hvl:v∈l
     ·have Hn:=hh_ (Hnext.out (Hno.out (okQ_in hvl)));rw[decide_eq_true hvl] at KH;clear hvl;go_wp2_with fail
      refine KH.mono ?_;rintro e w' ⟨rfl,rfl⟩;go_wp2;go_roundw;case rel=>exact⟨j+1,by omega,by go_num,HR,.inl ⟨rfl,rfl,Hn⟩⟩
      case measure=>simp[intOf]<;>omega
     ·rw[decide_eq_false hvl] at KH;have Hok:Hid (okQ l v=foB (l++ [v])):=okQ_out hvl;have Hlt2:Hid (∀u∈l++ [v],u<128):=by
       intro u hu;rw[List.mem_append,List.mem_singleton] at hu;rcases hu with hu|rfl
       ·exact Hlt.out u hu
       ·exact hv
      clear hvl;have HRl:Hid (Rd wr wr.heap.size Al l.length cl (fun j=>((l.getD j 0:Nat):Int))):=HLr.ln.rd;have hzr:=HR.below.size;have hzw:=HB.below.size;go_wp2_with fail
      refine KH.mono ?_;rintro e w' ⟨rfl,rfl⟩;clear KH;go_wp2;have HSC:Hid (∀z:World,Below wr.heap.size wr z->(Below wr.heap.size wr z/\z.cell? ⟨b0,o0+j,none⟩=some (.int .i64 v))):=fun z hz=>⟨hz,up_ hz p0⟩
      have HZ0:Hid (Below wr.heap.size wr wr.drew):=br_.drew;have HB1:Hid (Below wr.heap.size wr ((wr.alloc (Obj.cells #[] 3)).drew)):=(br_.alloc nr_ _).drew;have HB2:Hid (Below wr.heap.size wr (((wr.alloc (Obj.cells #[] 3)).alloc (Obj.cells #[.int .i64 (v:Int)] 3)).drew)):=((br_.alloc nr_ _).alloc (by simp) _).drew;have HB3:Hid (Below wr.heap.size wr (((wr.alloc (Obj.cells #[.int .i64 (v:Int)] 3)).alloc (Obj.cells #[] 3)).drew)):=((br_.alloc nr_ _).alloc (by simp) _).drew;have HB4:Hid (Below wr.heap.size wr ((wr.alloc (Obj.cells #[.int .i64 (v:Int)] 3)).drew)):=(br_.alloc nr_ _).drew;have HO1:Hid (Own ((wr.alloc (Obj.cells #[] 3)).drew) wr.heap.size (wr.heap.size+1) 3 1 (some ⟨wr.heap.size,0,none⟩) 0 0 (ni [])):=.inr ⟨wr.heap.size,#[],rfl,nr_,Nat.lt_succ_self _,heap_alloc_new wr _,nr_,by unfold maxLen;omega,rfl,fun j hj=>absurd hj (by omega)⟩
      have HO2:Hid (Own (((wr.alloc (Obj.cells #[] 3)).alloc (Obj.cells #[.int .i64 (v:Int)] 3)).drew) wr.heap.size (wr.heap.size+1) 3 1 (some ⟨wr.heap.size,0,none⟩) 0 0 (ni [])):=Own.alloc HO1.out _;have HO3:Hid (Own (((wr.alloc (Obj.cells #[.int .i64 (v:Int)] 3)).alloc (Obj.cells #[] 3)).drew) wr.heap.size (wr.heap.size+1+1) 3 1 (some ⟨wr.heap.size+1,0,none⟩) 0 0 (ni [])):=by
       have hn:=heap_alloc_new (wr.alloc (Obj.cells #[.int .i64 (v:Int)] 3)) (Obj.cells #[] 3);have he:(wr.alloc (Obj.cells #[.int .i64 (v:Int)] 3)).heap.size=wr.heap.size+1:=by simp
       rw[he] at hn;exact .inr ⟨wr.heap.size+1,#[],rfl,by omega,Nat.lt_succ_self _,hn,nr_,by unfold maxLen;omega,rfl,fun j hj=>absurd hj (by omega)⟩
      have HR1:Hid (Rd ((wr.alloc (Obj.cells #[] 3)).drew) wr.heap.size Al (l).length cl (fun j=>(((l).getD j 0:Nat):Int))):=HRl.keep HB1 nr_;have HR2:Hid (Rd (((wr.alloc (Obj.cells #[] 3)).alloc (Obj.cells #[.int .i64 (v:Int)] 3)).drew) wr.heap.size Al (l).length cl (fun j=>(((l).getD j 0:Nat):Int))):=HRl.keep HB2 nr_;have HR3:Hid (Rd (((wr.alloc (Obj.cells #[.int .i64 (v:Int)] 3)).alloc (Obj.cells #[] 3)).drew) wr.heap.size Al (l).length cl (fun j=>(((l).getD j 0:Nat):Int))):=HRl.keep HB3 nr_;have B2:Hid ((((wr.alloc (Obj.cells #[] 3)).alloc (Obj.cells #[.int .i64 (v:Int)] 3)).drew).heap[wr.heap.size+1]? =some (.cells #[.int .i64 (v:Int)] 3 (0,0))/\wr.heap.size+1<(((wr.alloc (Obj.cells #[] 3)).alloc (Obj.cells #[.int .i64 (v:Int)] 3)).drew).heap.size):=by
       have hn:=heap_alloc_new (wr.alloc (Obj.cells #[] 3)) (Obj.cells #[.int .i64 (v:Int)] 3);have he:(wr.alloc (Obj.cells #[] 3)).heap.size=wr.heap.size+1:=by simp
       rw[he] at hn;exact⟨hn,by show _<((wr.alloc _).alloc _).heap.size;simp⟩
      have B3:Hid ((((wr.alloc (Obj.cells #[.int .i64 (v:Int)] 3)).alloc (Obj.cells #[] 3)).drew).heap[wr.heap.size]? =some (.cells #[.int .i64 (v:Int)] 3 (0,0))/\wr.heap.size<(((wr.alloc (Obj.cells #[.int .i64 (v:Int)] 3)).alloc (Obj.cells #[] 3)).drew).heap.size):=
       ⟨(Below.heap_alloc (wr.alloc (Obj.cells #[.int .i64 (v:Int)] 3)) _ _ (by simp)).trans (heap_alloc_new wr _),by show _<((wr.alloc _).alloc _).heap.size;simp;omega⟩
      have HC1:Hid (∀(z:World) (A1:Option Addr) (k1:Nat),Own z wr.heap.size z.heap.size 3 1 A1 (l).length k1 (fun j=> .int .i64 (((l).getD j 0:Nat):Int))->Own z wr.heap.size z.heap.size 3 1 A1 (l).length k1 (ni (l++ [v]))):=by
       intro z A1 k1 h;exact h.congr (fun j hj=>by rw[ni_left hj];rfl)
      go_region_held3 (fun z=>Below wr.heap.size wr z/\z.cell? ⟨b0,o0+j,none⟩=some (.int .i64 v))
       (first|exact HSC.out _ HZ0.out|exact HSC.out _ HB1|exact HSC.out _ HB2|exact HSC.out _ HB3|exact HSC.out _ HB4|exact HSC.out _ hzB|exact HSC.out _ (bl_alloc hzA)|exact HSC.out _ hzA|fail)
       (first
         |((refine step_appendG0 _ (by rfl) _ _ (by rfl) (by rfl) HO1.out (by rfl) HR1.out HB1.size (by omega) ?_;intro A1 k1 wA hOA hbA hgA;have hzA:=HB1.trans hbA;have hOA':=HC1 _ _ _ hOA))
         |((refine step_appendG0 _ (by rfl) _ _ (by rfl) (by rfl) HO2.out (by rfl) HR2.out HB2.size (by omega) ?_;intro A1 k1 wA hOA hbA hgA;have hzA:=HB2.trans hbA;have hOA':=HC1 _ _ _ hOA;have hB5:=(hgA.block (wr.heap.size+1) B2.out.2 (by simp[Value.ownBlock])).trans B2.out.1))
         |((refine step_appendG0 _ (by rfl) _ _ (by rfl) (by rfl) HO3.out (by rfl) HR3.out HB3.size (by omega) ?_;intro A1 k1 wA hOA hbA hgA;have hzA:=HB3.trans hbA;have hOA':=HC1 _ _ _ hOA;have hB5:=(hgA.block wr.heap.size B3.out.2 (by simp[Value.ownBlock])).trans B3.out.1))
         |((refine step_push _ (by rfl) _ _ _ (by rfl) 3 _ 1 8 Tryz.underlying24 info_int rfl (by omega) wr.heap.size wA.heap.size A1 (l).length k1 (ni (l++ [v])) (by rfl) (hOA'.alloc _) (by have:=hzA.size;simp;omega) wA.heap.size #[.int .i64 (v:Int)] 3 (0,0) 1 (heap_alloc_new wA _) (by rfl) rfl ni_news (by simp[Value.oneCell']) (by omega) (by omega) ?_;intro g6 cap wB hp;have hzB:=(bl_alloc hzA).trans hp.below))
         |((refine step_push _ (by rfl) _ _ _ (by rfl) 3 _ 1 8 Tryz.underlying24 info_int rfl (by omega) wr.heap.size wA.heap.size A1 (l).length k1 (ni (l++ [v])) (by rfl) hOA' hzA.size (wr.heap.size+1) #[.int .i64 (v:Int)] 3 (0,0) 1 hB5 (by rfl) rfl ni_news (by simp[Value.oneCell']) (by omega) (by omega) ?_;intro g6 cap wB hp;have hzB:=hzA.trans hp.below))
         |((refine step_push _ (by rfl) _ _ _ (by rfl) 3 _ 1 8 Tryz.underlying24 info_int rfl (by omega) wr.heap.size wA.heap.size A1 (l).length k1 (ni (l++ [v])) (by rfl) hOA' hzA.size wr.heap.size #[.int .i64 (v:Int)] 3 (0,0) 1 hB5 (by rfl) rfl ni_news (by simp[Value.oneCell']) (by omega) (by omega) ?_;intro g6 cap wB hp;have hzB:=hzA.trans hp.below))
         |fail)
      all_goals replace HR:=hh_ (HR.keep hzB)
      all_goals (try clear hB5)
      all_goals have HOx:=hh_ hp.own
      all_goals have HBx:=hh_ hzB
      all_goals clear   HSC HZ0 HB1 HB2 HB3 HB4 HO1 HO2 HO3 HR1 HR2 HR3 B2 B3 HC1 hp hzA hzB hOA hbA hgA hOA'
      all_goals
       have hla:(l++ [v]).length=l.length+1:=by rw[List.length_append];rfl
       have KC:=l10Con_v (w:=wB) (Al:=some ⟨g6,0,none⟩) (cl:=cap) (l:=l++ [v]) ⟨by rw[hla];exact HOx.rd⟩ Hlt2.out (by rw[hla];omega);rw[co_fo Hlt2.out,hla] at KC;replace KC:=hh_ KC;have hzB:=HBx.size;cases hf:foB (l++ [v])
       ·have Hn:=hh_ (Hnext.out (Hno.out (Hok.trans hf)));rw[hf] at KC;clear hf hla;go_wp2_with fail
        refine KC.mono ?_;rintro e w' ⟨rfl,rfl⟩;go_wp2;go_roundw;case rel=>exact⟨j+1,by omega,by go_num,HR,.inl ⟨rfl,rfl,Hn⟩⟩
        case measure=>simp[intOf]<;>omega
       ·have Hy:=hh_ (Hyes.out (Hok.trans hf));rw[hf] at KC;have KI:=IH.out (l++ [v]) (some ⟨g6,0,none⟩) cap wB lo (by rw[hla];have:=Hlk.out;omega) Hlt2.out (HQr.keep HBx.out) ⟨by rw[hla];exact HOx.mono (by omega) nr_⟩ (by omega);rw[hla] at KI;obtain⟨so,hso⟩: ∃so,so=cqS Q k (l++ [v]):=⟨_,rfl⟩;rw[<-hso] at KI Hy;replace KI:=hh_ KI;clear hf hla hso;go_wp2_with fail
        refine KC.mono ?_;rintro e w' ⟨rfl,rfl⟩;go_wp2_with fail
        refine KI.mono ?_;rintro e w9 ⟨A',n',c',rfl,hx9,hb9⟩;have HX:=hh_ hx9;have HRn:Hid (From W w9):=⟨HR.below.trans (hb9.mono HR.below.size)⟩;clear hx9 hb9 KI;cases so with
        |none=>
         have Hn:=hh_ (Hnext.out Hy.out);rw[show oneN none=0 from rfl];go_wp2;go_roundw;case rel=>exact⟨j+1,by omega,by go_num,HRn,.inl ⟨rfl,rfl,Hn⟩⟩
         case measure=>simp[intOf]<;>omega
        |some x=>
         rw[show oneN (some x)=1 from rfl];have Hs:Hid (cqS Q (k+1) l=some x):=cqS_some hjl Hy.out hall.out;obtain⟨rfl,hx⟩:=HX.out x rfl;have HO:=hh_ hx;clear hx;go_wp2;go_roundw;case rel=>exact⟨j+1,by omega,by go_num,HRn,.inr ⟨x,_,_,rfl,rfl,Hs,HO⟩⟩
         case measure=>simp[intOf]<;>omega
    ·have Hn:Hid (cqS Q (k+1) l=none):=cqS_none fun u hu=>hall.out u (by omega)
     have i1:(Q.length:Int)<=(j:Int):=by omega
     go_wp2;go_ret2;exact⟨_,_,_,by rw[Hn.out];rfl,(fun y hy=>by rw[Hn.out] at hy;cases hy),HBr.below⟩
   ·by_cases hjl:j<Q.length
    ·have i1:(j:Int)<Q.length:=by omega
     go_wp2;go_ret2;exact⟨_,_,_,by rw[Hs.out];rfl,(fun y hy=>by rw[Hs.out] at hy;injection hy with hy;subst hy;exact⟨rfl,HO.out⟩),HBr.below⟩
    ·have i1:(Q.length:Int)<=(j:Int):=by omega
     go_wp2;go_ret2;exact⟨_,_,_,by rw[Hs.out];rfl,(fun y hy=>by rw[Hs.out] at hy;injection hy with hy;subst hy;exact⟨rfl,HO.out⟩),HBr.below⟩
end
section
variable {A:Option Addr} {m c:Nat} {r:Nat->Nat} {w:World}
theorem IsChordal_sv (h:GV w A m c r):Calls Tryz.prog 48 #[.agg #[.int .i64 m,.slice A m c]] w fun e w'=>e=.returned (.bool (elimB r (2^m-1)))/\Below w.heap.size w w':=by
 have:=IsChordal_sx (m:Int) A m c (fun v=>(r v:Int)) w w.heap.size h.rd nr_ (by have:=h.vg.n7;omega);rwa [chB_eq h.ok (b:=elimB r (2^m-1)) (by rw[rw_cast])] at this
set_option maxRecDepth 100000 in
theorem CliqueOrderOf_sv (h:GV w A m c r):
 Calls Tryz.prog 108 #[.agg #[.int .i64 m,.slice A m c]] w fun e w'=> ∃A' n' c',e=.returned (.tuple #[.slice A' n' c',.bool (clO r m).isSome])/\(∀x,clO r m=some x->n'=x.length/\ON w.heap.size w' A' c' x)/\Below w.heap.size w w':=by
 have hn7:=h.vg.n7;have h128:=two_pow_le hn7;have HQ1:Hid (∀s∈mqL r m,s<128):=fun s hs=>by have:=(mem_mqL.1 hs).1;omega
 have HQ2:Hid ((mqL r m).length<=128):=by
  have:=mqK_len r m (2^m);show (mqK r m (2^m)).length<=128;omega
 have Hdef:Hid (clO r m=if elimB r (2^m-1)=true then cqS (mqL r m) (mqL r m).length [] else none):=rfl;obtain⟨Q,hQ⟩: ∃Q,Q=mqL r m:=⟨_,rfl⟩;obtain⟨W,hW,HB,HG⟩:=gbW h;have HW:=hh_ hW;clear hW h;obtain⟨e0,e1⟩:=gx_ HG;obtain⟨ch,hch⟩: ∃ch,ch=elimB r (2^m-1):=⟨_,rfl⟩;have KC:Hid (Calls Tryz.prog 48 #[.agg #[.int .i64 m,.slice A m c]] W fun e w'=>e=.returned (.bool ch)/\Below W.heap.size W w'):=by rw[hch];exact IsChordal_sv HG.gv
 rw[<-hch] at Hdef;clear hch;cases ch
 ·have Hn:Hid (clO r m=none):=Hdef.out;go_enter Tryz.func108,Tryz.ntmps108;go_wp2_with fail
  rw[<-HW.out];refine(KC.out).mono ?_;rintro e w1 ⟨rfl,hb1⟩;clear HW;clear e0 e1;obtain⟨HB,HG,e0,e1⟩:=kG_ HB HG hb1;clear hb1;clear KC;have HE:=hh_ (HB.alloc_ (Obj.cells #[] 3));go_wp2;go_ret2;exact⟨_,_,_,by rw[Hn.out];rfl,(fun x hx=>by rw[Hn.out] at hx;cases hx),HE.below⟩
 ·have Hn:Hid (clO r m=cqS (mqL r m) (mqL r m).length []):=Hdef.out;go_enter Tryz.func108,Tryz.ntmps108;go_wp2_with fail
  rw[<-HW.out];refine(KC.out).mono ?_;rintro e w2 ⟨rfl,hb2⟩;clear HW;clear e0 e1;obtain⟨HB,HG,e0,e1⟩:=kG_ HB HG hb2;clear hb2;clear KC;go_wp2_with fail
  refine(MaximalCliques_sv HG.gv).mono ?_;rintro e w2 ⟨Aq,cq,rfl,ho2,hb2⟩;rw[<-hQ] at ho2 HQ1 HQ2 Hn ⊢;clear hQ Hdef;have HL2:=hh_ ho2.ln;clear e0 e1;replace HB:=hh_ (HB.keep hb2);replace HG:=hh_ (HG.keep hb2);clear hb2 ho2;obtain⟨e0,e1⟩:=gx_ HG;obtain⟨W3,hW3⟩: ∃W3,W3=w2.alloc (Obj.cells #[] 3):=⟨_,rfl⟩;have hb3:Below w2.heap.size w2 W3:=by rw[hW3];exact br_.alloc nr_ _
  have HO3:Hid (ON w2.heap.size W3 (some ⟨w2.heap.size,0,none⟩) 0 []):=by rw[hW3];exact ON.nil w2
  have HL3:=hh_ (HL2.keep hb3);have hw2:=HB.below.size;have KI:=hh_ (l10Search_v HQ1 HQ2 Q.length [] (some ⟨w2.heap.size,0,none⟩) 0 W3 w2.heap.size (by simp) (fun s h=>by cases h) HL3.out HO3.out hb3.size);rw[show ([]:List Nat).length=0 from rfl] at KI;obtain⟨so,hso⟩: ∃so,so=cqS Q Q.length []:=⟨_,rfl⟩;rw[<-hso] at KI Hn;have HW3:=hh_ hW3;clear e0 e1;replace HB:=hh_ (HB.keep hb3);replace HG:=hh_ (HG.keep hb3);clear hb3 hso hW3 HL2;obtain⟨e0,e1⟩:=gx_ HG;go_wp2_with fail
  rw[<-HW3.out];clear HW3;refine KI.mono ?_;rintro e w4 ⟨A4,n4,c4,rfl,hx4,hb4⟩;have HX:=hh_ hx4;clear e0 e1;replace HB:=hh_ (HB.keep hb4);replace HG:=hh_ (HG.keep hb4);clear hb4 hx4 KI HL3 HO3;obtain⟨e0,e1⟩:=gx_ HG;cases so with
  |none=>
   rw[show oneN none=0 from rfl];go_wp2;go_ret2;exact⟨_,_,_,by rw[Hn.out];rfl,(fun x hx=>by rw[Hn.out] at hx;cases hx),HB.below⟩
  |some x=>
   rw[show oneN (some x)=1 from rfl];obtain⟨rfl,hx⟩:=HX.out x rfl;have HO:=hh_ (hx.mono hw2);clear hx HX;go_wp2;go_ret2;exact⟨_,_,_,by rw[Hn.out];rfl,(fun y hy=>by rw[Hn.out] at hy;injection hy with hy;subst hy;exact⟨rfl,HO.out⟩),HB.below⟩
end
section
variable (sz:Int) (A:Option Addr) (m c:Nat) (x:Nat->Int) (w:World)
set_option maxRecDepth 100000 in
theorem CliqueOrderOf_sno (h:GA w A m c x) (hm:m<=1048576) (hok:okB sz m x=false):
 Calls Tryz.prog 108 #[.agg #[.int .i64 sz,.slice A m c]] w fun e w'=> ∃A' n' c',e=.returned (.tuple #[.slice A' n' c',.bool (none:Option (List Nat)).isSome])/\True/\Below w.heap.size w w':=by
 obtain⟨W,hW,HB,HK,HC⟩:=gaW sz h;have HW:=hh_ hW;have KF:Hid (Calls Tryz.prog 48 #[.agg #[.int .i64 sz,.slice A m c]] W fun e w'=>e=.returned (.bool false)/\Below W.heap.size W w'):=by
  have:=IsChordal_sx sz A m c x W W.heap.size HK.rd nr_ hm;rwa [chB_no hok] at this
 clear hW h hok;go_enter Tryz.func108,Tryz.ntmps108;obtain⟨e0,e1⟩:=gc_ HC;go_wp2_with fail
 rw[<-HW.out];refine(KF.out).mono ?_;rintro e w1 ⟨rfl,hb1⟩;clear HW;clear e0 e1;obtain⟨HB,HK,HC,e0,e1⟩:=kC_ HB HK HC hb1;clear hb1;clear KF;have HE:=hh_ (HB.alloc_ (Obj.cells #[] 3));go_wp2;go_ret2;exact⟨_,_,_,rfl,trivial,HE.below⟩
set_option maxRecDepth 100000 in
theorem IsInterval_s (h:GA w A m c x) (hm:m<=1048576):
 Calls Tryz.prog 49 #[.agg #[.int .i64 sz,.slice A m c]] w fun e w'=>e=.returned (.bool (ivG sz m x))/\Below w.heap.size w w':=by
 obtain⟨W,hW,HB,HK,HC⟩:=gaW sz h;have HW:=hh_ hW;clear hW h;go_enter Tryz.func49,Tryz.ntmps49;cases ho:okB sz m x
 ·have Hn:Hid (ivG sz m x=false):=ivG_no ho;have KF:=hh_ (CliqueOrderOf_sno sz A m c x W HK hm ho);clear ho;obtain⟨e0,e1⟩:=gc_ HC;go_wp2_with fail
  rw[<-HW.out];refine(KF.out).mono ?_;rintro e w1 ⟨A',n',c',rfl,_,hb1⟩;clear HW;clear e0 e1;obtain⟨HB,HK,HC,e0,e1⟩:=kC_ HB HK HC hb1;clear hb1;clear KF;go_wp2;go_ret;exact⟨ret_bool Hn.symm,HB.below⟩
 obtain⟨_,es,_,_⟩:=okB_ok' ho;subst es;have Hn:Hid (ivG (m:Int) m x=(clO (rw_ x) m).isSome):=ivG_yes ho;have HG:Hid (GBox W w.heap.size A m c (rw_ x)):=⟨HK.gv ho,HC.c0,HC.c1,HC.lt⟩;have KF:=hh_ (CliqueOrderOf_sv HG.gv);obtain⟨o,ho2⟩: ∃o,o=clO (rw_ x) m:=⟨_,rfl⟩;rw[<-ho2] at Hn KF;clear ho ho2 HC HK;cases o
 ·skip;obtain⟨e0,e1⟩:=gx_ HG;go_wp2_with fail
  rw[<-HW.out];refine(KF.out).mono ?_;rintro e w2 ⟨A',n',c',rfl,_,hb2⟩;clear HW;clear e0 e1;obtain⟨HB,HG,e0,e1⟩:=kG_ HB HG hb2;clear hb2;clear KF;go_wp2;go_ret;exact⟨ret_bool Hn.symm,HB.below⟩
 ·skip;obtain⟨e0,e1⟩:=gx_ HG;go_wp2_with fail
  rw[<-HW.out];refine(KF.out).mono ?_;rintro e w3 ⟨A',n',c',rfl,_,hb3⟩;clear HW;clear e0 e1;obtain⟨HB,HG,e0,e1⟩:=kG_ HB HG hb3;clear hb3;clear KF;go_wp2;go_ret;exact⟨ret_bool Hn.symm,HB.below⟩
end
end Go.Proofs.YtfabbohijhjpcaaGreatDoor
