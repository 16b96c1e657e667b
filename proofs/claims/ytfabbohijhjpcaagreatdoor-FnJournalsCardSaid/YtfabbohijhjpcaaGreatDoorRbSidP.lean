/- Lemmas. -/
import Derived.Test.YtfabbohijhjpcaaGreatDoorRbCloI
import Derived.Test.YtfabbohijhjpcaaGreatDoorRbThoB
import Derived.StillTailTactics
/-
-/
namespace Go.Proofs.YtfabbohijhjpcaaGreatDoor
open Go.RowKit
set_option maxHeartbeats 6400000
noncomputable def clO (r:Nat->Nat) (m:Nat):Option (List Nat):=if elimB r (2^m-1)=true then cqS (mqL r m) (mqL r m).length [] else none
noncomputable def ivG (sz:Int) (m:Nat) (x:Nat->Int):Bool:=okB sz m x&&(clO (rw_ x) m).isSome
theorem ivG_no {sz:Int} {m:Nat} {x:Nat->Int} (h:okB sz m x=false):ivG sz m x=false:=by unfold ivG;rw[h];rfl
theorem ivG_yes {sz:Int} {m:Nat} {x:Nat->Int} (h:okB sz m x=true):ivG sz m x=(clO (rw_ x) m).isSome:=by unfold ivG;rw[h];rfl
structure EnvC (z:World) (o hv q:Nat) (Q:List Nat) (Aq:Option Addr) (cq:Nat):Prop where
 ql:LN z Aq cq Q
 cl:z.cell? ⟨q,0,none⟩=some (.slice Aq Q.length cq)
 vis:z.cell? ⟨hv,0,none⟩=some (.func (.func 239) #[] #[.pointer (some ⟨o,0,none⟩)])
 srch:z.cell? ⟨q+1,0,none⟩=some (.func (.func 307) #[] #[.pointer (some ⟨q,0,none⟩),.pointer (some ⟨hv,0,none⟩),.pointer (some ⟨q+1,0,none⟩)])
 out:z.cell? ⟨o,0,none⟩=some (.slice none 0 0)
 fz:z.frozen? ⟨o,0,none⟩=false
theorem EnvC.keep {z z':World} {o hv q:Nat} {Q:List Nat} {Aq:Option Addr} {cq:Nat} (h:EnvC z o hv q Q Aq cq) (hb:Below z.heap.size z z'):EnvC z' o hv q Q Aq cq:=
 ⟨h.ql.keep hb,up_ hb h.cl,up_ hb h.vis,up_ hb h.srch,up_ hb h.out,upf hb h.fz (World.block_lt_of_cell? _ _ h.out)⟩
theorem EnvC.drew {z:World} {o hv q:Nat} {Q:List Nat} {Aq:Option Addr} {cq:Nat} (h:EnvC z o hv q Q Aq cq):EnvC z.drew o hv q Q Aq cq:=h.keep br_.drew
def cqR (w:World) (o:Nat):Option (List Nat)->Ending->World->Prop
 |none,e,w'=>e=.returned (.bool true)/\Below w.heap.size w w'
 |some x,e,w'=>e=.returned (.bool false)/\(∃g c,w'.cell? ⟨o,0,none⟩=some (.slice (some ⟨g,0,none⟩) x.length c)/\ON (o+1) w' (some ⟨g,0,none⟩) c x)/\Fr o (o+1) w w'
theorem visit_q (A:Option Addr) (n c o:Nat) (z:World) {u:Value} (h:z.cell? ⟨o,0,none⟩=some u) (hf:z.frozen? ⟨o,0,none⟩=false):
 Calls Tryz.prog 239 #[.slice A n c,.pointer (some ⟨o,0,none⟩)] z fun e w'=>e=.returned (.bool false)/\w'=z.setCell ⟨o,0,none⟩ (.slice A n c):=by
 go_enter Tryz.func239,Tryz.ntmps239;go_wp2;go_ret;exact⟨rfl,rfl⟩
theorem cell_set1 {w:World} {o:Nat} {u v:Value} (h:w.cell? ⟨o,0,none⟩=some u):(w.setCell ⟨o,0,none⟩ v).cell? ⟨o,0,none⟩=some v:=by simp[go_sem,h]
theorem fr1 (w:World) (q:Nat) (x:Value):Fr q (q+1) w (w.setCell ⟨q,0,none⟩ x):=(Fr.refl _ _ w).setCell (p:=⟨q,0,none⟩) nr_ (Nat.lt_succ_self _) _
section
variable {o hv q:Nat} {Q:List Nat} {Aq:Option Addr} {cq:Nat}
set_option maxRecDepth 100000 in
theorem search_q (hQ0:Q≠ []) (hQ: ∀s∈Q,s<128) (hQl:Q.length<=128): ∀(k:Nat) (l:List Nat) (Al:Option Addr) (cl:Nat) (w:World),l.length+k=Q.length->(∀s∈l,s<128)->EnvC w o hv q Q Aq cq->LN w Al cl l->(Al=none->l= [])->
 Calls Tryz.prog 307 #[.slice Al l.length cl,.pointer (some ⟨q,0,none⟩),.pointer (some ⟨hv,0,none⟩),.pointer (some ⟨q+1,0,none⟩)] w (cqR w o (cqS Q k l)):=by
 have HQ:=hh_ hQ;have HEv:=(ent_of Tryz.func239 (by kernel_rfl) rfl);have HEs:=(ent_of Tryz.func307 (by kernel_rfl) rfl);unfold Ent at HEv HEs;intro k;induction k with
 |zero=>
  intro l Al cl w hlk hlt hE hl hA;have hl0:l≠ []:=by
   rintro rfl;exact hQ0 (List.length_eq_zero_iff.1 (by simpa using hlk.symm))
  have e0:=hE.cl;have e1:=hE.vis;have hpos:0<l.length:=List.length_pos_iff.2 hl0;have HOlt:Hid (o<w.heap.size):=World.block_lt_of_cell? _ _ hE.out;have HOV:Hid (hv≠o):=by
   rintro rfl;have h1:=hE.vis;rw[hE.out] at h1;cases h1
  have HEd:Hid (EnvC w.drew o hv q Q Aq cq):=hE.drew;have HLd:Hid (LN w.drew Al cl l):=hl.keep br_.drew;have KC:Hid (Calls Tryz.prog 222 #[.slice Al l.length cl] w.drew fun e w'=> ∃g c',e=.returned (.slice (some ⟨g,0,none⟩) l.length c')/\ON w.heap.size w' (some ⟨g,0,none⟩) c' l/\Below w.drew.heap.size w.drew w'):=clone_z Al cl l w.drew HLd.out hl0 (by omega);have heq:((l.length:Int)==(Q.length:Int))=true:=by simp;omega
  have heq2:(l.length=Q.length)=True:=by simp;omega
  have hf:Hid (cqS Q 0 l=some l):=rfl;clear hlk hlt hE hl hA hl0;go_enter Tryz.func307,Tryz.ntmps307;go_wp2;have HSw:Hid (w.drew.cell? ⟨hv,0,none⟩=some (.func (.func 239) #[] #[.pointer (some ⟨o,0,none⟩)])):=HEd.vis;clear e0 e1 heq heq2 hpos;refine wp_region_held_drew (S:=fun z=>z.cell? ⟨hv,0,none⟩=some (.func (.func 239) #[] #[.pointer (some ⟨o,0,none⟩)])) (by kernel_rfl) HSw.out (fun hHeld=> ?_);refine pcY 0 ?_;refine ptY ?_;refine w1H 2 (fun K hK=> ?_);go_simp;go_at_call 222;refine(KC.out).mono ?_
  rintro e w2 ⟨g,c2,rfl,ho2,hb2⟩;have HE2:=hh_ (HEd.keep hb2);have HO2:=hh_ ho2;have HB2:Hid (Below w.heap.size w w2):=bl_trans (Below.refl w.heap.size w).drew hb2;have d0:=HE2.out.out;have d1:=HE2.fz;have KV:=hh_ (visit_q (some ⟨g,0,none⟩) l.length c2 o w2 d0 d1);have HS2:Hid ((w2.setCell ⟨o,0,none⟩ (.slice (some ⟨g,0,none⟩) l.length c2)).cell? ⟨o,0,none⟩=some (.slice (some ⟨g,0,none⟩) l.length c2)):=cell_set1 d0;refine hK.out _ _ HE2.vis (fun hHeld=> ?_);clear hK K;try simp only[Act.put,sl0,sl1,sl2]
  refine w1H 3 (fun K hK=> ?_);go_simp;refine(KV.out).mono ?_;rintro e w3 ⟨rfl,rfl⟩;have HS3:Hid ((w2.setCell ⟨o,0,none⟩ (.slice (some ⟨g,0,none⟩) l.length c2)).cell? ⟨hv,0,none⟩=some (.func (.func 239) #[] #[.pointer (some ⟨o,0,none⟩)])):=(fr1 w2 o _).cell (p:=⟨hv,0,none⟩) (World.block_lt_of_cell? _ _ HE2.vis) (by have hov:=HOV.out;show hv<o\/o+1<=hv;omega)|>.trans HE2.vis;refine hK.out _ _ HS3.out (fun hHeld=> ?_);clear hK K;try simp only[Act.put,sl0,sl1,sl2]
  refine ptY ?_;refine wpAnyH_done (by kernel_rfl) ?_ _;clear KC KV hb2 ho2 d0 d1;go_wp2;go_ret;rw[hf.out];have F:=fr1 w2 o (.slice (some ⟨g,0,none⟩) l.length c2);have ho:=HOlt.out;exact⟨rfl,⟨g,c2,HS2.out,⟨(HO2.own.keep F (.inr (by omega))).mono (by omega) F.size⟩⟩,(Fr.of_below HB2).trans F⟩
 |succ k ih=>
  intro l Al cl w hlk hlt hE hl hA;have IH:=hh_ ih;have HE:=hh_ hE;have HL:=hh_ hl;have Hlt:=hh_ hlt;have HA:=hh_ hA;have e0:=hE.cl;have hne:((l.length:Int)==(Q.length:Int))=false:=by simp;omega
  have hne2:(l.length=Q.length)=False:=by simp;omega
  have hcap:l.length<=cl:=hl.le;have hl7:l.length<=128:=by omega
  have Hlk:=hh_ hlk;clear ih hE hl hlt hA hlk;go_enter Tryz.func307,Tryz.ntmps307;go_wp2;go_loopw [20] (fun i wr=> ∃v:Nat,v<=Q.length/\i=.int .i64 v/\Hid (∀u,u<v->cqA Q k l u=none)/\Hid (From w wr)) (fun i _=>Q.length-(intOf i).toNat);case atStart=>exact⟨0,Nat.zero_le _,rfl,(fun u hu=>absurd hu (by omega)),From.refl _⟩
  case round=>
   obtain⟨j,hj,rfl,hall,HR⟩:=hrel;have zr:=HR.below.size;by_cases hjl:j<Q.length
   ·have i1:(j:Int)<Q.length:=by omega
    have hcap2:(l.length:Int)<=(cl:Int):=by omega
    have HEr:=hh_ (HE.keep HR.below);have HLr:=hh_ (HL.keep HR.below);have HRl:Hid (Rd wr wr.heap.size Al l.length l.length (fun j=>((l.getD j 0:Nat):Int))):=⟨nr_,HLr.rd.2⟩;obtain⟨b0,o0,rfl⟩:=HEr.ql.addr (by omega);have p0:=HEr.ql.cell hjl;have hv':Q.getD j 0<128:=by
     have e:Q.getD j 0=Q[j]:=by simp[List.getD,hjl]
     rw[e];exact HQ _ (List.getElem_mem _)
    have Hno:Hid (okQ l (Q.getD j 0)=false->cqA Q k l j=none):=fun h=>cqA_no h
    have Hyes:Hid (okQ l (Q.getD j 0)=true->cqA Q k l j=cqS Q k (l++ [Q.getD j 0])):=fun h=>cqA_yes h
    obtain⟨v,hv0⟩: ∃v,v=Q.getD j 0:=⟨_,rfl⟩;rw[<-hv0] at p0 hv' Hno Hyes;clear hv0;have Hnext:Hid (cqA Q k l j=none-> ∀u,u<j+1->cqA Q k l u=none):=fun h u hu=>by
     by_cases huj:u<j
     ·exact hall.out u huj
     ·obtain rfl:u=j:=by omega
      exact h
    go_wp2_with (first|(at_builtin;(refine wpList_moreN wr rfl _ _ rfl wr.heap.size Al l HA.out HRl.out nr_ v rfl 1 wr.heap.size rfl rfl (by omega) ?_;intro g cap w3 hO3 hb3)))
    have z3:=hb3.size;have HR3:Hid (From w w3):=HR.keep hb3;have HE3:=hh_ (HEr.keep hb3);have HL3:=hh_ (HLr.keep hb3);have hla:(l++ [v]).length=l.length+1:=by rw[List.length_append];rfl
    have HN3:Hid (LN w3 (some ⟨g,0,none⟩) cap (l++ [v])):=⟨by rw[hla];exact hO3.rd⟩;have Hla:=hh_ hla;clear hO3 hb3 HRl hla p0 HEr HLr;have KC:=hh_ (Contains_i Al l.length cl l v w3 w3.heap.size ⟨rfl,HL3.rd⟩ (by omega));by_cases hvl:v∈l
    ·have Hn:=hh_ (Hnext.out (Hno.out (okQ_in hvl)));rw[decide_eq_true hvl] at KC;clear hvl;go_wp2_with fail
     refine KC.mono ?_;rintro e w' ⟨rfl,rfl⟩;go_wp2;go_roundw;case rel=>exact⟨j+1,by omega,by go_num,Hn,HR3⟩
     case measure=>simp[intOf]<;>omega
    ·have Hc:Hid (okQ l v=foB (l++ [v])):=okQ_out hvl;have Hlt2:Hid (∀u∈l++ [v],u<128):=by
      intro u hu;rw[List.mem_append,List.mem_singleton] at hu;rcases hu with hu|rfl
      ·exact Hlt.out u hu
      ·exact hv'
     rw[decide_eq_false hvl] at KC;clear hvl;go_wp2_with fail
     refine KC.mono ?_;rintro e w' ⟨rfl,rfl⟩;have KF:=hh_ (follow_v HN3.out Hlt2.out (by rw[Hla.out];omega));rw[Hla.out] at KF;clear KC;cases hf:foB (l++ [v])
     ·have Hn:=hh_ (Hnext.out (Hno.out (Hc.trans hf)));rw[hf] at KF;clear hf;go_wp2_with fail
      refine KF.mono ?_;rintro e w4 ⟨rfl,hb4⟩;have HR4:Hid (From w w4):=HR3.keep hb4;clear hb4 KF;go_wp2;go_roundw;case rel=>exact⟨j+1,by omega,by go_num,Hn,HR4⟩
      case measure=>simp[intOf]<;>omega
     ·have Hy:=hh_ (Hyes.out (Hc.trans hf));rw[hf] at KF;clear hf;go_wp2_with fail
      refine KF.mono ?_;rintro e w4 ⟨rfl,hb4⟩;have HR4:Hid (From w w4):=HR3.keep hb4;have HE4:=hh_ (HE3.keep hb4);have HN4:=hh_ (HN3.keep hb4);have e5:=HE4.srch;have KI:=hh_ (IH.out (l++ [v]) (some ⟨g,0,none⟩) cap w4 (by rw[Hla.out];have:=Hlk.out;omega) Hlt2.out HE4.out HN4.out (fun e=>by cases e));rw[Hla.out] at KI;clear hb4 KF HE3 HL3 HN3;obtain⟨so,hso⟩: ∃so,so=cqS Q k (l++ [v]):=⟨_,rfl⟩;rw[<-hso] at KI Hy;clear hso;cases so with
      |none=>
       have Hn:=hh_ (Hnext.out Hy.out);go_wp2_with fail
       refine KI.mono ?_;rintro e w5 ⟨rfl,hb5⟩;have HR5:Hid (From w w5):=HR4.keep hb5;clear hb5 KI e5;go_wp2;go_roundw;case rel=>exact⟨j+1,by omega,by go_num,Hn,HR5⟩
       case measure=>simp[intOf]<;>omega
      |some x=>
       have Hs:Hid (cqS Q (k+1) l=some x):=cqS_some hjl Hy.out hall.out;go_wp2_with fail
       refine KI.mono ?_;rintro e w5 ⟨rfl,hx5,hf5⟩;have HX5:=hh_ hx5;have HF5:Hid (Fr o (o+1) w w5):=(Fr.of_below HR4.below).trans hf5;clear hx5 hf5 KI e5;go_wp2;go_ret;rw[Hs.out];exact⟨rfl,HX5.out,HF5.out⟩
   ·have Hn:Hid (cqS Q (k+1) l=none):=cqS_none fun u hu=>hall.out u (by omega)
    have i1:(Q.length:Int)<=(j:Int):=by omega
    go_wp2;go_ret;rw[Hn.out];exact⟨rfl,HR.below⟩
end
def clR (w:World) (o:Nat):Option (List Nat)->World->Prop
 |none,w'=>Below w.heap.size w w'
 |some x,w'=>(∃g c,w'.cell? ⟨o,0,none⟩=some (.slice (some ⟨g,0,none⟩) x.length c)/\ON (o+1) w' (some ⟨g,0,none⟩) c x)/\Fr o (o+1) w w'
section
variable {A:Option Addr} {m c:Nat} {r:Nat->Nat} {w:World}
theorem IsChordal_v (h:GV w A m c r):Calls Tryz.prog 98 #[.agg #[.int .i64 m,.slice A m c]] w fun e w'=>e=.returned (.bool (elimB r (2^m-1)))/\Below w.heap.size w w':=by
 have:=IsChordal_ix (m:Int) A m c (fun v=>(r v:Int)) w w.heap.size h.rd nr_ (by have:=h.vg.n7;omega);rwa [chB_eq h.ok (b:=elimB r (2^m-1)) (by rw[rw_cast])] at this
set_option maxRecDepth 100000 in
theorem cliqueOrders_v (h:GV w A m c r) {o:Nat} (ho:w.cell? ⟨o,0,none⟩=some (.slice none 0 0)) (hf:w.frozen? ⟨o,0,none⟩=false):
 Calls Tryz.prog 238 #[.agg #[.int .i64 m,.slice A m c],.func (.func 239) #[] #[.pointer (some ⟨o,0,none⟩)]] w fun e w'=>e=.returned (.tuple #[])/\clR w o (clO r m) w':=by
 have hn7:=h.vg.n7;have h128:=two_pow_le hn7;have HQ0:=hh_ (mqL_ne h.vg);have HQ1:Hid (∀s∈mqL r m,s<128):=fun s hs=>by have:=(mem_mqL.1 hs).1;omega
 have HQ2:Hid ((mqL r m).length<=128):=by
  have:=mqK_len r m (2^m);show (mqK r m (2^m)).length<=128;omega
 have Hdef:Hid (clO r m=if elimB r (2^m-1)=true then cqS (mqL r m) (mqL r m).length [] else none):=rfl;obtain⟨Q,hQ⟩: ∃Q,Q=mqL r m:=⟨_,rfl⟩;have HEs:=(ent_of Tryz.func307 (by kernel_rfl) rfl);unfold Ent at HEs;obtain⟨W,hW⟩: ∃W,W=((w.alloc (Obj.cells #[.int .i64 m,.slice A m c] 26)).alloc (Obj.cells #[.func (.func 239) #[] #[.pointer (some ⟨o,0,none⟩)]] 152)):=⟨_,rfl⟩;have HB:Hid (From w W):=by rw[hW];exact(From.alloc _ _).alloc_ _
 have HG:Hid (GBox W w.heap.size A m c r):=by rw[hW];exact h.box.keep (br_.alloc nr_ _)
 have HV:Hid (CL W (w.heap.size+1) 0 (.func (.func 239) #[] #[.pointer (some ⟨o,0,none⟩)])):=by rw[hW];constructor;simp[go_sem]
 have HO:Hid (CL W o 0 (.slice none 0 0)):=⟨up_ HB.below ho⟩;have HF:Hid (W.frozen? ⟨o,0,none⟩=false):=upf HB.below hf (World.block_lt_of_cell? _ _ ho);have HW:=hh_ hW;clear hW h ho hf;go_enter Tryz.func238,Tryz.ntmps238;obtain⟨e0,e1⟩:=gx_ HG;go_wp2_with fail
 rw[<-HW.out];clear HW;refine(MaximalCliques_v HG.gv).mono ?_;rintro e w1 ⟨Aq,cq,rfl,ho1,hb1⟩;rw[<-hQ] at ho1 HQ0 HQ1 HQ2 Hdef ⊢;clear hQ;have HF1:Hid (w1.frozen? ⟨o,0,none⟩=false):=upf hb1 HF.out (World.block_lt_of_cell? _ _ HO.c);have HL1:=hh_ ho1.ln;clear e0 e1;replace HB:=hh_ (HB.keep hb1);replace HV:=hh_ (HV.keep hb1);replace HO:=hh_ (HO.keep hb1);replace HG:=hh_ (HG.keep hb1);clear hb1 ho1 HF;obtain⟨e0,e1⟩:=gx_ HG;obtain⟨W2,hW2⟩: ∃W,W=((w1.alloc (Obj.cells #[.slice Aq Q.length cq] 24)).alloc (Obj.cells #[.func (.func 307) #[] #[.pointer (some ⟨w1.heap.size,0,none⟩),.pointer (some ⟨w.heap.size+1,0,none⟩),.pointer (some ⟨w1.heap.size+1,0,none⟩)]] 152)):=⟨_,rfl⟩;have hb2:Below w1.heap.size w1 W2:=by rw[hW2];exact(br_.alloc nr_ _).alloc (by simp) _
 have HC2:Hid (CL W2 w1.heap.size 0 (.slice Aq Q.length cq)):=by rw[hW2];constructor;simp[go_sem]
 have HS2:Hid (CL W2 (w1.heap.size+1) 0 (.func (.func 307) #[] #[.pointer (some ⟨w1.heap.size,0,none⟩),.pointer (some ⟨w.heap.size+1,0,none⟩),.pointer (some ⟨w1.heap.size+1,0,none⟩)])):=by rw[hW2];constructor;simp[go_sem]
 have HF2:Hid (W2.frozen? ⟨o,0,none⟩=false):=upf hb2 HF1.out (World.block_lt_of_cell? _ _ HO.c);have HL2:=hh_ (HL1.keep hb2);have HW2:=hh_ hW2;have hlt1:=HG.lt;clear hW2;go_wp2_with fail
 rw[<-HW2.out];clear e0 e1;replace HB:=hh_ (HB.keep hb2);replace HV:=hh_ (HV.keep hb2);replace HO:=hh_ (HO.keep hb2);replace HG:=hh_ (HG.keep hb2);clear hb2 HL1 HF1 HW2 hlt1;obtain⟨e0,e1⟩:=gx_ HG;refine(IsChordal_v HG.gv).mono ?_;rintro e w3 ⟨rfl,hb3⟩;have HF3:Hid (w3.frozen? ⟨o,0,none⟩=false):=upf hb3 HF2.out (World.block_lt_of_cell? _ _ HO.c);have HE3:Hid (EnvC w3 o (w.heap.size+1) w1.heap.size Q Aq cq):=⟨HL2.keep hb3,up_ hb3 HC2.c,up_ hb3 HV.c,up_ hb3 HS2.c,up_ hb3 HO.c,HF3.out⟩;clear e0 e1;replace HB:=hh_ (HB.keep hb3);replace HV:=hh_ (HV.keep hb3);replace HO:=hh_ (HO.keep hb3);replace HG:=hh_ (HG.keep hb3);clear hb3 HF2 HF3 HC2 HS2 HL2;obtain⟨e0,e1⟩:=gx_ HG;obtain⟨ch,hch⟩: ∃ch,ch=elimB r (2^m-1):=⟨_,rfl⟩;rw[<-hch] at Hdef ⊢;clear hch;cases ch
 ·have Hn:Hid (clO r m=none):=Hdef.out;go_wp2;go_end0;rw[Hn.out];exact⟨rfl,HB.below⟩
 ·have Hn:Hid (clO r m=cqS Q Q.length []):=Hdef.out;have hs:=HE3.srch;have KI:=hh_ (search_q HQ0 HQ1 HQ2 Q.length [] none 0 w3 (by simp) (fun s h=>by cases h) HE3.out ⟨⟨nr_,fun h=>absurd h (by simp)⟩⟩ (fun _=>rfl));rw[show ([]:List Nat).length=0 from rfl] at KI;obtain⟨so,hso⟩: ∃so,so=cqS Q Q.length []:=⟨_,rfl⟩;rw[<-hso] at KI Hn;clear hso e0 e1 HQ0 HQ1 HQ2 Hdef;go_wp2_with fail
  refine KI.mono ?_;rintro e w4 hq;have HQ4:=hh_ hq;clear hq KI;cases so with
  |none=>
   obtain⟨rfl,hb4⟩:=HQ4.out;have HB4:Hid (Below w.heap.size w w4):=bl_trans HB.below hb4;clear hb4 HQ4;go_wp2;go_end0;rw[Hn.out];exact⟨rfl,HB4⟩
  |some x=>
   obtain⟨rfl,hx,hf4⟩:=HQ4.out;have HX:=hh_ hx;have HB4:Hid (Fr o (o+1) w w4):=(Fr.of_below HB.below).trans hf4;clear hf4 hx HQ4;go_wp2;go_end0;rw[Hn.out];exact⟨rfl,HX.out,HB4⟩
set_option maxRecDepth 100000 in
theorem CliqueOrderOf_v (h:GV w A m c r):
 Calls Tryz.prog 162 #[.agg #[.int .i64 m,.slice A m c]] w (lsQ w (clO r m)):=by
 obtain⟨W,hW⟩: ∃W,W=((w.alloc (Obj.cells #[.int .i64 m,.slice A m c] 26)).alloc (Obj.cells #[.slice none 0 0] 24)):=⟨_,rfl⟩;have HB:Hid (From w W):=by rw[hW];exact(From.alloc _ _).alloc_ _
 have HG:Hid (GBox W w.heap.size A m c r):=by rw[hW];exact h.box.keep (br_.alloc nr_ _)
 have HO:Hid (CL W (w.heap.size+1) 0 (.slice none 0 0)):=by rw[hW];constructor;simp[go_sem]
 have HF:Hid (W.frozen? ⟨w.heap.size+1,0,none⟩=false):=by rw[hW];simp[go_sem,Hid]
 have hzW:w.heap.size+2<=W.heap.size:=by rw[hW];simp
 have KC:=hh_ (cliqueOrders_v HG.gv HO.c HF.out);have HW:=hh_ hW;obtain⟨so,hso⟩: ∃so,so=clO r m:=⟨_,rfl⟩;rw[<-hso] at KC ⊢;clear hW h hso;go_enter Tryz.func162,Tryz.ntmps162;obtain⟨e0,e1⟩:=gx_ HG;go_wp2_with fail
 rw[<-HW.out];clear HW;refine KC.mono ?_;rintro e w1 ⟨rfl,hq⟩;cases so with
 |none=>
  clear e0 e1;replace HB:=hh_ (HB.keep hq);replace HO:=hh_ (HO.keep hq);replace HG:=hh_ (HG.keep hq);clear hq KC;obtain⟨e0,e1⟩:=gx_ HG;have d0:=HO.c;have he: ∀w:World,(binOp .neq 24 (.slice none 0 0) (.slice none 0 0)).run Tryz.prog w=.ok (.bool false) w:=fun _=>rfl
  go_wp2;go_quiet (fail)
  go_wp2;go_ret2;exact lsQ.no (below_drewN HB.below _)
 |some x=>
  obtain⟨⟨g,c1,hc,ho⟩,hf⟩:=hq;have d0:=hc;have HOx:Hid (ON w.heap.size w1 (some ⟨g,0,none⟩) c1 x):=ho.mono (by omega);have HBx:Hid (Below w.heap.size w w1):=HB.below.trans (hf.below (by omega) (by omega));have he: ∀w:World,(binOp .neq 24 (.slice (some ⟨g,0,none⟩) x.length c1) (.slice none 0 0)).run Tryz.prog w=.ok (.bool true) w:=fun _=>rfl
  clear hc ho hf KC e0 e1;go_wp2;go_quiet (fail)
  go_wp2;go_ret2;exact lsQ.yes (HOx.keep (below_drewN br_ _)) (below_drewN HBx.out _)
end
section
variable (sz:Int) (A:Option Addr) (m c:Nat) (x:Nat->Int) (w:World)
set_option maxRecDepth 100000 in
theorem cliqueOrders_no (h:GA w A m c x) (hm:m<=1048576) (hok:okB sz m x=false) (o:Nat):
 Calls Tryz.prog 238 #[.agg #[.int .i64 sz,.slice A m c],.func (.func 239) #[] #[.pointer (some ⟨o,0,none⟩)]] w fun e w'=>e=.returned (.tuple #[])/\Below w.heap.size w w':=by
 obtain⟨W,hW⟩: ∃W,W=((w.alloc (Obj.cells #[.int .i64 sz,.slice A m c] 26)).alloc (Obj.cells #[.func (.func 239) #[] #[.pointer (some ⟨o,0,none⟩)]] 152)):=⟨_,rfl⟩;have HB:Hid (From w W):=by rw[hW];exact(From.alloc _ _).alloc_ _
 have HK:=hh_ (h.keep HB.below);have HC:Hid (GC W w.heap.size sz A m c):=by rw[hW];exact(GC.new _ _ _ _ _).keep (br_.alloc nr_ _)
 have HW:=hh_ hW;have KM:=hh_ (MaximalCliques_no HK hm hok);have Hch:=hh_ (chB_no hok);have hq0:0<W.heap.size:=by rw[hW];simp
 clear hW h hok;go_enter Tryz.func238,Tryz.ntmps238;obtain⟨e0,e1⟩:=gc_ HC;go_wp2_with fail
 rw[<-HW.out];clear HW;refine KM.mono ?_;rintro e w1 ⟨A1,c1,rfl,hb1⟩;clear e0 e1;replace HB:=hh_ (HB.keep hb1);replace HK:=hh_ (HK.keep hb1);replace HC:=hh_ (HC.keep hb1);clear hb1 KM;obtain⟨e0,e1⟩:=gc_ HC;obtain⟨W2,hW2⟩: ∃W,W=((w1.alloc (Obj.cells #[.slice A1 0 c1] 24)).alloc (Obj.cells #[.func (.func 307) #[] #[.pointer (some ⟨w1.heap.size,0,none⟩),.pointer (some ⟨w.heap.size+1,0,none⟩),.pointer (some ⟨w1.heap.size+1,0,none⟩)]] 152)):=⟨_,rfl⟩;have hb2:Below w1.heap.size w1 W2:=by rw[hW2];exact(br_.alloc nr_ _).alloc (by simp) _
 have HW2:=hh_ hW2;have hlt1:=HC.lt;clear hW2;go_wp2_with fail
 rw[<-HW2.out];clear e0 e1;replace HB:=hh_ (HB.keep hb2);replace HK:=hh_ (HK.keep hb2);replace HC:=hh_ (HC.keep hb2);clear hb2 HW2 hlt1;obtain⟨e0,e1⟩:=gc_ HC;refine(IsChordal_ix sz A m c x _ _ HK.rd nr_ hm).mono ?_;rintro e w3 ⟨rfl,hb3⟩;rw[Hch.out];clear e0 e1;obtain⟨HB,HK,HC,e0,e1⟩:=kC_ HB HK HC hb3;clear hb3;go_wp2;go_end0;exact⟨rfl,HB.below⟩
set_option maxRecDepth 100000 in
theorem CliqueOrderOf_no (h:GA w A m c x) (hm:m<=1048576) (hok:okB sz m x=false):
 Calls Tryz.prog 162 #[.agg #[.int .i64 sz,.slice A m c]] w (lsQ w none):=by
 obtain⟨W,hW⟩: ∃W,W=((w.alloc (Obj.cells #[.int .i64 sz,.slice A m c] 26)).alloc (Obj.cells #[.slice none 0 0] 24)):=⟨_,rfl⟩;have HB:Hid (From w W):=by rw[hW];exact(From.alloc _ _).alloc_ _
 have HK:=hh_ (h.keep HB.below);have HC:Hid (GC W w.heap.size sz A m c):=by rw[hW];exact(GC.new _ _ _ _ _).keep (br_.alloc nr_ _)
 have HO:Hid (CL W (w.heap.size+1) 0 (.slice none 0 0)):=by rw[hW];constructor;simp[go_sem]
 have KC:=hh_ (cliqueOrders_no sz A m c x W HK hm hok (w.heap.size+1));have HW:=hh_ hW;clear hW h hok;go_enter Tryz.func162,Tryz.ntmps162;obtain⟨e0,e1⟩:=gc_ HC;go_wp2_with fail
 rw[<-HW.out];clear HW;refine KC.mono ?_;rintro e w1 ⟨rfl,hb1⟩;clear e0 e1;replace HB:=hh_ (HB.keep hb1);replace HO:=hh_ (HO.keep hb1);replace HC:=hh_ (HC.keep hb1);clear hb1 KC;obtain⟨e0,e1⟩:=gc_ HC;have d0:=HO.c;have he: ∀w:World,(binOp .neq 24 (.slice none 0 0) (.slice none 0 0)).run Tryz.prog w=.ok (.bool false) w:=fun _=>rfl
 go_wp2;go_quiet (fail)
 go_wp2;go_ret2;exact lsQ.no (below_drewN HB.below _)
set_option maxRecDepth 100000 in
theorem IsInterval_i (h:GA w A m c x) (hm:m<=1048576):
 Calls Tryz.prog 99 #[.agg #[.int .i64 sz,.slice A m c]] w fun e w'=>e=.returned (.bool (ivG sz m x))/\Below w.heap.size w w':=by
 obtain⟨W,hW,HB,HK,HC⟩:=gaW sz h;have HW:=hh_ hW;clear hW h;go_enter Tryz.func99,Tryz.ntmps99;cases ho:okB sz m x
 ·have Hn:Hid (ivG sz m x=false):=ivG_no ho;have KF:=hh_ (CliqueOrderOf_no sz A m c x W HK hm ho);clear ho;obtain⟨e0,e1⟩:=gc_ HC;go_wp2_with fail
  rw[<-HW.out];refine(KF.out).mono ?_;rintro e w1 ⟨A',c',rfl,_,hb1⟩;clear HW;clear e0 e1;obtain⟨HB,HK,HC,e0,e1⟩:=kC_ HB HK HC hb1;clear hb1;clear KF;go_wp2;go_ret;exact⟨ret_bool Hn.symm,HB.below⟩
 obtain⟨_,es,_,_⟩:=okB_ok' ho;subst es;have Hn:Hid (ivG (m:Int) m x=(clO (rw_ x) m).isSome):=ivG_yes ho;have HG:Hid (GBox W w.heap.size A m c (rw_ x)):=⟨HK.gv ho,HC.c0,HC.c1,HC.lt⟩;have KF:=hh_ (CliqueOrderOf_v HG.gv);obtain⟨o,ho2⟩: ∃o,o=clO (rw_ x) m:=⟨_,rfl⟩;rw[<-ho2] at Hn KF;clear ho ho2 HC HK;cases o
 ·skip;obtain⟨e0,e1⟩:=gx_ HG;go_wp2_with fail
  rw[<-HW.out];refine(KF.out).mono ?_;rintro e w2 ⟨A',c',rfl,_,hb2⟩;clear HW;clear e0 e1;obtain⟨HB,HG,e0,e1⟩:=kG_ HB HG hb2;clear hb2;clear KF;go_wp2;go_ret;exact⟨ret_bool Hn.symm,HB.below⟩
 ·skip;obtain⟨e0,e1⟩:=gx_ HG;go_wp2_with fail
  rw[<-HW.out];refine(KF.out).mono ?_;rintro e w3 ⟨A',c',rfl,_,hb3⟩;clear HW;clear e0 e1;obtain⟨HB,HG,e0,e1⟩:=kG_ HB HG hb3;clear hb3;clear KF;go_wp2;go_ret;exact⟨ret_bool Hn.symm,HB.below⟩
end
section
variable {m:Nat} {r:Nat->Nat}
def cmp (r:Nat->Nat) (m v:Nat):Nat:=part r (2^m-1) (2^v)
theorem full_bit {u:Nat}:(2^m-1).testBit u=decide (u<m):=Nat.testBit_two_pow_sub_one m u
theorem pow_subS {s v:Nat} (h:s.testBit v=true):Sub (2^v) s:=fun u hu=>by
 rw[Nat.testBit_two_pow] at hu
 have:v=u:=by simpa using hu
 rw[<-this];exact h
theorem pow_ne (v:Nat):2^v≠0:=by have:=Nat.two_pow_pos v;omega
theorem stp_mono {set s t:Nat} (h:Sub s t):Sub (stp r set s) (stp r set t):=fun u hu=>by
 have h1:=stp_bit.1 hu
 exact stp_bit.2 ⟨h1.1.imp (h u) (nb_mono h u),h1.2⟩
theorem gro_in {set s t:Nat} (h:Sub s t) (hc:Sub (stp r set t) t): ∀k,Sub (gro r set s k) t:=by
 intro k;induction k with
 |zero=>exact h
 |succ k ih=>exact(stp_mono ih).trans hc
theorem full_sub_of {v:Nat} (hv:v<m):Sub (2^v) (2^m-1):=pow_subS (by rw[full_bit];simpa using hv)
theorem cmp_fix (vg:VG m r) {v:Nat} (hv:v<m):stp r (2^m-1) (cmp r m v)=cmp r m v:=
 gro_stop (n:=7) (by omega) (by have:=two_pow_le vg.n7;omega) (full_sub_of hv) (pow_ne v)
theorem cmp_self {v:Nat} (hv:v<m):(cmp r m v).testBit v=true:=gro_from (full_sub_of hv) 7 v (by simp)
theorem cmp_sub {v:Nat} (hv:v<m):Sub (cmp r m v) (2^m-1):=gro_sub (full_sub_of hv) 7
theorem cmp_lt {v:Nat} (hv:v<m):cmp r m v<2^m:=sub_lt (cmp_sub hv) (by have:=Nat.two_pow_pos m;omega)
theorem cmp_bit {v u:Nat} (hv:v<m) (h:(cmp r m v).testBit u=true):u<m:=bit_lt (cmp_lt hv) h
theorem cmp_in (vg:VG m r) {u v:Nat} (hu:u<m) (h:(cmp r m u).testBit v=true):Sub (cmp r m v) (cmp r m u):=
 gro_in (pow_subS h) (by rw[cmp_fix vg hu];exact fun _ h=>h) 7
theorem cmp_eq (vg:VG m r) {u v:Nat} (hu:u<m) (h:(cmp r m u).testBit v=true):cmp r m u=cmp r m v:=by
 have hv:=cmp_bit hu h;have hn7:=vg.n7;refine Sub.antisymm ?_ (cmp_in vg hu h);cases hb:(cmp r m v).testBit u
 ·exfalso;have hE:Sub (stp r (2^m-1) ((2^m-1)^^^cmp r m v)) ((2^m-1)^^^cmp r m v):=by
   intro x hx;have h1:=stp_bit.1 hx;have hxm:x<m:=by have:=h1.2;rw[full_bit] at this;simpa using this
   rw[Nat.testBit_xor,full_bit,decide_eq_true hxm];cases hxd:(cmp r m v).testBit x
   ·rfl
   ·exfalso;rcases h1.1 with h2|h2
    ·rw[Nat.testBit_xor,full_bit,decide_eq_true hxm,hxd] at h2;cases h2
    ·obtain⟨y,hy7,hy,hyx⟩:=nb_bit.1 h2;rw[Nat.testBit_xor,full_bit] at hy;have hym:y<m:=by
      by_cases e:y<m
      ·exact e
      ·rw[decide_eq_false e] at hy;have:(cmp r m v).testBit y=true:=by simpa using hy
       exact cmp_bit hv this
     rw[decide_eq_true hym] at hy;have hyd:(cmp r m v).testBit y=false:=by simpa using hy
     have:(stp r (2^m-1) (cmp r m v)).testBit y=true:=stp_bit.2 ⟨.inr (nb_bit.2 ⟨x,by omega,hxd,by rw[vg.sym x y hxm hym];exact hyx⟩),by rw[full_bit];simpa using hym⟩;rw[cmp_fix vg hv,hyd] at this;cases this
  have hin:=gro_in (r:=r) (set:=2^m-1) (s:=2^u) (t:=(2^m-1)^^^cmp r m v) (pow_subS (by rw[Nat.testBit_xor,full_bit,decide_eq_true hu,hb];rfl)) hE 7 v h;rw[Nat.testBit_xor,full_bit,decide_eq_true hv,cmp_self hv] at hin;cases hin
 ·exact cmp_in vg hv hb
theorem part_cmp (vg:VG m r) {left:Nat} (hl:left<2^m) (hcl:Sub (stp r (2^m-1) left) left) (h0:left≠0) {v:Nat} (hv:(part r left (low left)).testBit v=true):part r left (low left)=cmp r m v:=by
 have h128:=two_pow_le vg.n7;have hlf:Sub left (2^m-1):=fun u hu=>by rw[full_bit];simpa using bit_lt hl hu
 have hlow:=low_sub (by omega:left<128) h0;obtain⟨u,l,e,hu7,hub⟩:=list_ne (by omega:left<128) h0;have hum:=bit_lt hl hub;have he:part r left (low left)=cmp r m u:=by
  unfold part cmp part;rw[<-gro_left hcl hlf hlow.1 7,low_of e]
 rw[he] at hv ⊢;exact cmp_eq vg hum hv
def fstN (s:Nat):Nat:=(listN s).getD 0 0
def dsO (r:Nat->Nat) (m v w:Nat):Option Nat:=(List.range m).find? fun n=>(gro r (2^m-1) (2^v) n).testBit w
def dsI (r:Nat->Nat) (m v w:Nat):Int:=optI (dsO r m v w)
theorem dsI_yes {v w n:Nat} (hn:n<m) (h:(gro r (2^m-1) (2^v) n).testBit w=true) (hmin: ∀j,j<n->(gro r (2^m-1) (2^v) j).testBit w=false):dsI r m v w=n:=by
 have:dsO r m v w=some n:=by
  unfold dsO;rw[List.find?_range_eq_some];exact⟨h,by simp[hn],fun j hj=>by simp[hmin j hj]⟩
 unfold dsI;rw[this];rfl
theorem dsI_no {v w:Nat} (h: ∀j,j<m->(gro r (2^m-1) (2^v) j).testBit w=false):dsI r m v w= -1:=by
 have:dsO r m v w=none:=by
  unfold dsO;rw[List.find?_eq_none];intro j hj;simp[h j (List.mem_range.1 hj)]
 unfold dsI;rw[this];rfl
theorem dsI_range (v w:Nat): -1<=dsI r m v w/\dsI r m v w<7\/7<m:=by
 by_cases hm:m<=7
 ·left;unfold dsI;cases h:dsO r m v w with
  |none=>exact⟨Int.le_refl _,by decide⟩
  |some n=>
   unfold dsO at h;have:=List.mem_range.1 (List.mem_of_find?_eq_some h);show-1<=(n:Int)/\(n:Int)<7;omega
 ·right;omega
def evB (r:Nat->Nat) (m v:Nat):Bool:=decide ((dsI r m (fstN (cmp r m v)) v).tmod 2=0)
def sdS (r:Nat->Nat) (m:Nat):Nat:=bmK (evB r m) m
def sdO (r:Nat->Nat) (m:Nat):Option Nat:=if indB r (sdS r m)&&indB r ((2^m-1)^^^sdS r m) then some (sdS r m) else none
theorem fst_in {s:Nat} (hs:s<128) (h:s≠0):s.testBit (fstN s)=true/\0<(listN s).length:=by
 obtain⟨v,l,e,_,hb⟩:=list_ne hs h;unfold fstN;rw[e];exact⟨hb,by simp⟩
def evL (P:Nat->Bool) (a:Nat) (l:List Nat):Nat:=l.foldl (fun a v=>if P v=true then a|||2^v else a) a
theorem evL_snoc {P:Nat->Bool} {a v:Nat} {l:List Nat}:evL P a (l++ [v])=if P v=true then evL P a l|||2^v else evL P a l:=by
 unfold evL;rw[List.foldl_append];rfl
theorem evL_bit {P:Nat->Bool} {u:Nat}: ∀(l:List Nat) (a:Nat),(evL P a l).testBit u=(a.testBit u||(decide (u∈l)&&P u)):=by
 intro l;induction l with
 |nil=>intro a;simp[evL]
 |cons v l ih=>
  intro a;show (evL P (if P v=true then a|||2^v else a) l).testBit u=_;rw[ih];by_cases e:u=v
  ·subst e;cases P u
   ·simp
   ·simp
  ·cases h:P v
   ·simp[e]
   ·simp[e,Nat.testBit_or,show¬v=u from fun h=>e h.symm]
theorem evL_lt {P:Nat->Bool} {a:Nat} {l:List Nat} (ha:a<2^m) (hl: ∀v∈l,v<m):evL P a l<2^m:=by
 induction l generalizing a with
 |nil=>exact ha
 |cons v l ih=>
  refine ih (a:=if P v=true then a|||2^v else a) ?_ fun u hu=>hl u (List.mem_cons_of_mem _ hu)
  split
  ·exact Nat.or_lt_two_pow ha (Nat.pow_lt_pow_right (by omega) (hl v (by simp)))
  ·exact ha
def evT (P:Nat->Bool) (T:List Nat):Nat:=T.foldl (fun a p=>evL P a (listN p)) 0
theorem evT_snoc {P:Nat->Bool} {T:List Nat} {p:Nat}:evT P (T++ [p])=evL P (evT P T) (listN p):=by
 unfold evT;rw[List.foldl_append];rfl
theorem evT_bit {P:Nat->Bool} {u:Nat} (T:List Nat):(evT P T).testBit u=(decide (∃p∈T,u∈listN p)&&P u):=by
 suffices h: ∀(T:List Nat) (a:Nat),(T.foldl (fun a p=>evL P a (listN p)) a).testBit u=(a.testBit u||(decide (∃p∈T,u∈listN p)&&P u)) by
  have:=h T 0;rw[Nat.zero_testBit,Bool.false_or] at this;exact this
 intro T;induction T with
 |nil=>intro a;simp
 |cons p T ih=>
  intro a;rw[List.foldl_cons,ih,evL_bit];by_cases h1:u∈listN p
  ·by_cases h2: ∃q∈T,u∈listN q
   ·simp[h1,h2]<;>(cases a.testBit u<;>cases P u<;>simp_all)
   ·simp[h1]<;>(cases a.testBit u<;>cases P u<;>simp_all)
  ·simp[h1]
theorem evT_lt {P:Nat->Bool} {T:List Nat} (h: ∀p∈T,p<2^m):evT P T<2^m:=by
 suffices hh: ∀(T:List Nat) (a:Nat),a<2^m->(∀p∈T,p<2^m)->T.foldl (fun a p=>evL P a (listN p)) a<2^m from hh T 0 (Nat.two_pow_pos m) h
 intro T;induction T with
 |nil=>intro a ha _;exact ha
 |cons p T ih=>
  intro a ha hp;exact ih _ (evL_lt ha fun v hv=>bit_lt (hp p (by simp)) (mem_listN.1 hv).2) fun q hq=>hp q (by simp[hq])
structure PT (r:Nat->Nat) (m:Nat) (T:List Nat):Prop where
 lt: ∀p∈T,p<2^m
 ne: ∀p∈T,p≠0
 is: ∀p∈T,∀v,p.testBit v=true->p=cmp r m v
structure PL (r:Nat->Nat) (m left:Nat) (T:List Nat):Prop where
 pt:PT r m T
 cl:Sub (stp r (2^m-1) left) left
 al: ∀v,v<m->left.testBit v=true\/ ∃p∈T,p.testBit v=true
theorem PL.start (r:Nat->Nat) (m:Nat):PL r m (2^m-1) []:=by
 refine⟨⟨(fun p hp=>by cases hp),(fun p hp=>by cases hp),(fun p hp=>by cases hp)⟩,fun u hu=>(stp_bit.1 hu).2,fun v hv=> .inl (by rw[full_bit];simpa using hv)⟩
theorem PL.step {left:Nat} {T:List Nat} (vg:VG m r) (h:PL r m left T) (hl:left<2^m) (h0:left≠0):PL r m (left^^^part r left (low left)) (T++ [part r left (low left)]):=by
 have h128:=two_pow_le vg.n7;have hlf:Sub left (2^m-1):=fun u hu=>by rw[full_bit];simpa using bit_lt hl hu
 have hps:=part_sub (r:=r) (by omega:left<128) h0;have hplt:=sub_lt hps.1 hl;refine⟨⟨fun p hp=> ?_,fun p hp=> ?_,fun p hp v hv=> ?_⟩,closed_next vg (by have:=Nat.two_pow_pos m;omega) hlf h.cl h0,fun v hv=> ?_⟩
 ·rcases List.mem_append.1 hp with hp|hp
  ·exact h.pt.lt p hp
  ·rw[List.mem_singleton] at hp;rw[hp];exact hplt
 ·rcases List.mem_append.1 hp with hp|hp
  ·exact h.pt.ne p hp
  ·rw[List.mem_singleton] at hp;rw[hp];exact hps.2
 ·rcases List.mem_append.1 hp with hp|hp
  ·exact h.pt.is p hp v hv
  ·rw[List.mem_singleton] at hp;rw[hp] at hv ⊢;exact part_cmp vg hl h.cl h0 hv
 ·rcases h.al v hv with h1|⟨p,hp,h1⟩
  ·cases hb:(part r left (low left)).testBit v
   ·left;rw[Nat.testBit_xor,h1,hb];rfl
   ·exact .inr ⟨_,by simp,hb⟩
  ·exact .inr ⟨p,by simp[hp],h1⟩
theorem PL.fin {T:List Nat} (vg:VG m r) (h:PL r m 0 T):evT (evB r m) T=sdS r m:=by
 apply Nat.eq_of_testBit_eq;intro u;have hn7:=vg.n7;unfold sdS;rw[evT_bit,bmK_bit];congr 1;rw[decide_eq_decide];constructor
 ·rintro⟨p,hp,hu⟩;exact bit_lt (h.pt.lt p hp) (mem_listN.1 hu).2
 ·intro hu;rcases h.al u hu with h1|⟨p,hp,h1⟩
  ·simp at h1
  ·exact⟨p,hp,mem_listN.2 ⟨by omega,h1⟩⟩
end
end Go.Proofs.YtfabbohijhjpcaaGreatDoor
