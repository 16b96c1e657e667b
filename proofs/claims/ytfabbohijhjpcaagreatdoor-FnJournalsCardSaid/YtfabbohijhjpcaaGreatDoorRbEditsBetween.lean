/- Lemmas. -/
import Derived.Shelf.LaysM
import Derived.Lib.ItoaLen
import Derived.Lib.LaidTab
import Derived.LaidSub
import Derived.LaidMore
import Derived.Lay
import Derived.Stop.Joined
import Derived.SevenTiedAt
import Derived.Handed
import Derived.Test.YtfabbohijhjpcaaGreatDoorRbPedJ
import Derived.Shelf.Vars
/-
-/
namespace Go.Proofs.YtfabbohijhjpcaaGreatDoor
open Go.RowKit
set_option maxHeartbeats 3200000
set_option maxRecDepth 100000 in
theorem ParseEdits_s (s:ByteArray) (w:World) (hs:s.size<=1048576):
 Calls Tryz.prog 26 #[.string s] w fun e w'=> ∃A' c',e=.returned (.tuple #[.slice A' (peN s) c',.bool (pdB s)])/\Own w' w.heap.size w'.heap.size 48 3 A' (peN s) c' (eds (peA s) (peV s) (peU s))/\Below w.heap.size w w':=by
 by_cases e0:s.toList= [110,111,110,101]
 ·obtain⟨hN,hB⟩:=pe_none e0;have HN:=hh_ hN;have HBo:=hh_ hB;clear hN hB;go_enter Tryz.func26,Tryz.ntmps26;go_wp2;go_ret2;exact⟨some ⟨w.heap.size,0,none⟩,0,by rw[HN.out,HBo.out];rfl,by rw[HN.out];exact own_newE w _ _ _,br_.alloc nr_ _⟩
 have Hyes:Hid (peOk s->peN s=(peW s).length/\pdB s=true):=pe_yes e0;have Hno:Hid (¬peOk s->peN s=0/\pdB s=false):=pe_no e0;have e1:(s.toList== [110,111,110,101])=false:=beq_eq_false_iff_ne.2 e0;have Hnone:Hid ((⟨#[110,111,110,101]⟩:ByteArray).toList= [110,111,110,101]):=by rw[ByteArray.toList_eq];rfl
 go_enter Tryz.func26,Tryz.ntmps26;go_wp2_with fail
 refine(l2Cut_s s _ hs).mono ?_;rintro e w1 ⟨D,A1,c1,hD,rfl,hO1,hb1⟩;have HB0:Hid (Below w.heap.size w w1):=(br_.alloc nr_ _).trans (hb1.mono (by simp));have HO0:Hid (Own w1 w.heap.size (w.heap.size+1) 48 3 (some ⟨w.heap.size,0,none⟩) 0 0 (eds (peA s) (peV s) (peU s))):=((own_newE w _ _ _).keepB hb1 nr_).mono nr_ (by simp);have hDl:D.length=(peW s).length:=by
  have:=congrArg List.length hD;rwa [List.length_map] at this
 have HD:Hid (∀j,(D.getD j ⟨#[]⟩).data.toList=(peW s).getD j []):=fun j=>by
  show _=(cutA 44 [] s.data.toList).getD j [];rw[<-hD];by_cases hj:j<D.length
  ·simp[List.getD,hj]
  ·simp[List.getD,List.getElem?_eq_none (Nat.le_of_not_lt hj)]
 have hq:(w.alloc (Obj.cells #[] 48)).heap.size=w.heap.size+1:=by simp
 obtain⟨gD,rfl,hgD1,hgD2,_,hcD,_⟩:=hO1.at_ (by have:=peW_pos s;omega);rw[hq] at hgD1;obtain⟨n,hn⟩: ∃n,n=(peW s).length:=⟨_,rfl⟩;have Hn:Hid (n=(peW s).length):=hn;rw[<-hn] at hDl;have hlen:n<=1048577:=by
  have:=cutA_length 44 s.data.toList [];have h2:s.data.toList.length=s.size:=by simp
  have h3:n=(cutA 44 [] s.data.toList).length:=hn;omega
 have HC:Hid (∀j,j<n->w1.cell? ⟨gD,j,none⟩=some (.string (D.getD j ⟨#[]⟩))):=fun j hj=>by rw[hcD j (by omega)];rfl
 have HW3:Hid (∀j,j<n->(D.getD j ⟨#[]⟩).size=((peW s).getD j []).length):=fun j hj=>by rw[<-HD.out];simp
 rw[hDl];clear hO1 hcD hb1 hq hDl hD hn;go_wp2;go_loopw [4,6] (fun l i wr=> ∃(k:Nat) (A':Option Addr) (c' g:Nat),k<=n/\i=.int .i64 k/\l=.slice A' k c'/\A'=some ⟨g,0,none⟩/\w.heap.size<=g/\g≠gD/\g<wr.heap.size/\gD<wr.heap.size/\(k≠0->s.size<=60)/\Hid (∀j,j<k->(D.getD j ⟨#[]⟩).size=3)/\Hid (Own wr g (g+1) 48 3 (some ⟨g,0,none⟩) k c' (eds (peA s) (peV s) (peU s)))/\Hid (Below w.heap.size w wr)/\Hid (∀j,j<n->wr.cell? ⟨gD,j,none⟩=some (.string (D.getD j ⟨#[]⟩)))) (fun _ i _=>n-(intOf i).toNat);case atStart=>exact⟨0,_,0,w.heap.size,Nat.zero_le _,rfl,rfl,rfl,nr_,by omega,by omega,hgD2,by omega,(fun j hj=>absurd hj (by omega)),HO0,HB0,HC⟩
 case round=>
  clear HO0 HB0 HC;obtain⟨k,A',c',g,hk,rfl,rfl,rfl,hg1,hg2,hg3,hq2,h60,hall,HO,HB,HC⟩:=hrel;by_cases hlt:k<n
  ·have i1:(k:Int)<n:=by omega
   by_cases hl:s.size<=60
   ·have i2:(s.size:Int)<=60:=by omega
    have q0:=HC k hlt;have hPk:=HD.out k;have hP3:=HW3.out k hlt;obtain⟨P,hP⟩: ∃P,P=D.getD k ⟨#[]⟩:=⟨_,rfl⟩;rw[<-hP] at q0 hPk hP3;have HP:=hh_ hP;clear hP;by_cases h3:P.size=3
    ·have p0:0<P.size:=by omega
     have p1:1<P.size:=by omega
     have p2:2<P.size:=by omega
     have h3':((P.size:Int) !=3)=false:=by rw[h3];rfl
     obtain⟨ha,hv,hu⟩:=pe_word hPk h3;have b1:=P[1].toNat_lt;have b2:=P[2].toNat_lt;have Hall2:Hid (∀j,j<k+1->(D.getD j ⟨#[]⟩).size=3):=fun j hj=>by
      by_cases hjk:j<k
      ·exact hall.out j hjk
      ·obtain rfl:j=k:=by omega
       rw[<-HP.out];exact h3
     have HX:Hid (Own ((wr.alloc (Obj.cells #[.bool ((P[0].toNat:Int)==43),.int .i64 (IntKind.i64.wrap (IntKind.i64.wrap (P[1].toNat:Int)-48)),.int .i64 (IntKind.i64.wrap (IntKind.i64.wrap (P[2].toNat:Int)-48))] 48)).drew) g (g+1) 48 3 (some ⟨g,0,none⟩) k c' (eds (peA s) (peV s) (peU s))):=(HO.alloc _).drew;have HXn:Hid (∀i,i<3->(#[.bool ((P[0].toNat:Int)==43),Value.int .i64 (IntKind.i64.wrap (IntKind.i64.wrap (P[1].toNat:Int)-48)),Value.int .i64 (IntKind.i64.wrap (IntKind.i64.wrap (P[2].toNat:Int)-48))]:Array Value)[i]? =some (eds (peA s) (peV s) (peU s) (k*3+i))):=eds_news ha (hv.trans (wrB _).symm) (hu.trans (wrB _).symm);have hx0:((peW s).getD k []).getD 0 0=P[0]:=by
      rw[<-hPk];simp[List.getD,p0];rfl
     clear ha hv hu hall hP3 hPk;by_cases t1:P[0]=43
     ·have u1:((P[0].toNat:Int) !=43)=false:=by rw[t1];rfl
      have Ht:=hh_ t1;clear t1 hx0;go_wp2;have S0:Hid (wr.drew.cell? ⟨gD,k,none⟩=some (.string P)):=q0;have S1:Hid (((wr.alloc (Obj.cells #[.bool ((P[0].toNat:Int)==43),.int .i64 (IntKind.i64.wrap (IntKind.i64.wrap (P[1].toNat:Int)-48)),.int .i64 (IntKind.i64.wrap (IntKind.i64.wrap (P[2].toNat:Int)-48))] 48)).drew).cell? ⟨gD,k,none⟩=some (.string P)):=(World.cell?_alloc_lt wr _ ⟨gD,k,none⟩ hq2).trans q0;go_region_held3 (fun z=>z.cell? ⟨gD,k,none⟩=some (.string P))
       (first|exact S0.out|exact S1.out|exact((((Fr.refl g (g+1) wr).alloc _).drew).trans hp.caged.2.2.2|>.cell (p:=⟨gD,k,none⟩) hq2 (by show gD<g\/g+1<=gD;omega)).trans q0|fail)
       (first
         |(refine step_push _ (by rfl) _ _ _ (by rfl) 48 _ 3 24 Tryz.underlying27 info_edit rfl (by omega) g _ (some ⟨g,0,none⟩) k c' (eds (peA s) (peV s) (peU s)) (by rfl) HX.out (by simp;omega) wr.heap.size #[.bool ((P[0].toNat:Int)==43),.int .i64 (IntKind.i64.wrap (IntKind.i64.wrap (P[1].toNat:Int)-48)),.int .i64 (IntKind.i64.wrap (IntKind.i64.wrap (P[2].toNat:Int)-48))] 48 (0,0) 1 (heap_alloc_new wr _) (by rfl) rfl HXn.out (by simp[Value.oneCell']) (by omega) (by omega) ?_;intro g6 cap w6 hp))
      all_goals
       obtain⟨hp1,hp2,hp3,hp4⟩:=hp.caged;have hf:Fr g (g+1) wr w6:=(((Fr.refl g (g+1) wr).alloc _).drew).trans hp4;have hg6:g6=g\/wr.heap.size<=g6:=hp2.imp id (fun h=>by rw[h];show wr.heap.size<=(wr.alloc _).heap.size;simp);have hz6:=hf.size;have HO6:=hh_ hp1;have HB6:Hid (Below w.heap.size w w6):=HB.trans (hf.below hg1 HB.size);have HC6:Hid (∀j,j<n->w6.cell? ⟨gD,j,none⟩=some (.string (D.getD j ⟨#[]⟩))):=fun j hj=>(hf.cell (p:=⟨gD,j,none⟩) (by show gD<_;omega) (by show gD<g\/g+1<=gD;omega)).trans (HC j hj)
       clear hp hp1 hp2 hp4 hf HX HXn HB HC b1 b2 q0;go_wp2;go_roundw;case rel=>exact⟨k+1,_,cap,g6,by omega,by go_num,rfl,rfl,by omega,by omega,hp3,by omega,fun _=>hl,Hall2,HO6,HB6,HC6⟩
       case measure=>simp[intOf]<;>omega
     by_cases t2:P[0]=45
     ·have u1:((P[0].toNat:Int) !=43)=true:=by rw[t2];rfl
      have u2:((P[0].toNat:Int) !=45)=false:=by rw[t2];rfl
      clear t1 t2 hx0;go_wp2;have S0:Hid (wr.drew.cell? ⟨gD,k,none⟩=some (.string P)):=q0;have S1:Hid (((wr.alloc (Obj.cells #[.bool ((P[0].toNat:Int)==43),.int .i64 (IntKind.i64.wrap (IntKind.i64.wrap (P[1].toNat:Int)-48)),.int .i64 (IntKind.i64.wrap (IntKind.i64.wrap (P[2].toNat:Int)-48))] 48)).drew).cell? ⟨gD,k,none⟩=some (.string P)):=(World.cell?_alloc_lt wr _ ⟨gD,k,none⟩ hq2).trans q0;go_region_held3 (fun z=>z.cell? ⟨gD,k,none⟩=some (.string P))
       (first|exact S0.out|exact S1.out|exact((((Fr.refl g (g+1) wr).alloc _).drew).trans hp.caged.2.2.2|>.cell (p:=⟨gD,k,none⟩) hq2 (by show gD<g\/g+1<=gD;omega)).trans q0|fail)
       (first
         |(refine step_push _ (by rfl) _ _ _ (by rfl) 48 _ 3 24 Tryz.underlying27 info_edit rfl (by omega) g _ (some ⟨g,0,none⟩) k c' (eds (peA s) (peV s) (peU s)) (by rfl) HX.out (by simp;omega) wr.heap.size #[.bool ((P[0].toNat:Int)==43),.int .i64 (IntKind.i64.wrap (IntKind.i64.wrap (P[1].toNat:Int)-48)),.int .i64 (IntKind.i64.wrap (IntKind.i64.wrap (P[2].toNat:Int)-48))] 48 (0,0) 1 (heap_alloc_new wr _) (by rfl) rfl HXn.out (by simp[Value.oneCell']) (by omega) (by omega) ?_;intro g6 cap w6 hp))
      all_goals
       obtain⟨hp1,hp2,hp3,hp4⟩:=hp.caged;have hf:Fr g (g+1) wr w6:=(((Fr.refl g (g+1) wr).alloc _).drew).trans hp4;have hg6:g6=g\/wr.heap.size<=g6:=hp2.imp id (fun h=>by rw[h];show wr.heap.size<=(wr.alloc _).heap.size;simp);have hz6:=hf.size;have HO6:=hh_ hp1;have HB6:Hid (Below w.heap.size w w6):=HB.trans (hf.below hg1 HB.size);have HC6:Hid (∀j,j<n->w6.cell? ⟨gD,j,none⟩=some (.string (D.getD j ⟨#[]⟩))):=fun j hj=>(hf.cell (p:=⟨gD,j,none⟩) (by show gD<_;omega) (by show gD<g\/g+1<=gD;omega)).trans (HC j hj)
       clear hp hp1 hp2 hp4 hf HX HXn HB HC b1 b2 q0;go_wp2;go_roundw;case rel=>exact⟨k+1,_,cap,g6,by omega,by go_num,rfl,rfl,by omega,by omega,hp3,by omega,fun _=>hl,Hall2,HO6,HB6,HC6⟩
       case measure=>simp[intOf]<;>omega
     have u1:((P[0].toNat:Int) !=43)=true:=by
      rw[bne_iff_ne];intro h;refine t1 (UInt8.toNat_inj.1 ?_);show _=43;omega
     have u2:((P[0].toNat:Int) !=45)=true:=by
      rw[bne_iff_ne];intro h;refine t2 (UInt8.toNat_inj.1 ?_);show _=45;omega
     obtain⟨hN,hBo⟩:=Hno.out (peOk_sign (j:=k) (by rw[<-Hn.out];exact hlt) (by rw[hx0];exact t1) (by rw[hx0];exact t2));clear t1 t2 hx0 HX HXn HO;have HN:=hh_ hN;have HBo:=hh_ hBo;have hzB:=HB.size;clear hN hBo;go_wp2;go_ret2;exact⟨some ⟨wr.heap.size,0,none⟩,0,by rw[HN.out,HBo.out];rfl,by rw[HN.out];exact(own_newE wr _ _ _).mono hzB nr_,HB.alloc hzB _⟩
    ·have h3':((P.size:Int) !=3)=true:=by rw[bne_iff_ne];omega
     obtain⟨hN,hBo⟩:=Hno.out (peOk_len (j:=k) (by rw[<-Hn.out];exact hlt) (by rw[<-hP3];exact h3));clear h3 hP3 hPk HO;have HN:=hh_ hN;have HBo:=hh_ hBo;have hzB:=HB.size;clear hN hBo;go_wp2;go_ret2;exact⟨some ⟨wr.heap.size,0,none⟩,0,by rw[HN.out,HBo.out];rfl,by rw[HN.out];exact(own_newE wr _ _ _).mono hzB nr_,HB.alloc hzB _⟩
   ·have i2:(60:Int)<s.size:=by omega
    obtain rfl:k=0:=by
     rcases Nat.eq_zero_or_pos k with h|h
     ·exact h
     ·exact absurd (h60 (by omega)) hl
    obtain⟨hN,hBo⟩:=Hno.out (peOk_long (by omega));have HN:=hh_ hN;have HBo:=hh_ hBo;have KF:=hh_ (FormatEdits_s (some ⟨g,0,none⟩) 0 c' (peA s) (peV s) (peU s) wr ⟨(HO.mono nr_ (show g+1<=wr.heap.size by omega)).rdE⟩ (by omega));rw[fmO_none] at KF;have e5:((⟨#[110,111,110,101]⟩:ByteArray).toList==s.toList)=false:=by
     rw[Hnone.out,beq_eq_false_iff_ne];exact fun h=>e0 h.symm
    obtain⟨F,hF⟩: ∃F:ByteArray,F=⟨#[110,111,110,101]⟩:=⟨_,rfl⟩;rw[<-hF] at KF e5;clear hF hN hBo Hno Hyes Hnone HO h60 hall;go_wp2_with fail
    refine KF.mono ?_;rintro e w2 ⟨rfl,hb2⟩;have HB2:Hid (Below w.heap.size w w2):=HB.trans (hb2.mono HB.size);have hz2:=HB2.size;clear hb2 HB HC;go_wp2;go_ret2;exact⟨some ⟨w2.heap.size,0,none⟩,0,by rw[HN.out,HBo.out];rfl,by rw[HN.out];exact(own_newE w2 _ _ _).mono hz2 nr_,HB2.alloc hz2 _⟩
  ·have i1:(n:Int)<=k:=by omega
   obtain rfl:k=n:=by omega
   have KF:=hh_ (FormatEdits_s (some ⟨g,0,none⟩) k c' (peA s) (peV s) (peU s) wr ⟨(HO.mono nr_ (show g+1<=wr.heap.size by omega)).rdE⟩ (by omega));obtain⟨F,hF⟩: ∃F,F=fmO k (peA s) (peV s) (peU s):=⟨_,rfl⟩;have h3: ∀x∈peW s,x.length=3:=by
    intro x hx;obtain⟨j,hj,e⟩:=List.mem_iff_getElem.1 hx;have hj2:j<k:=by rw[Hn.out];exact hj
    have:=hall.out j hj2;rw[HW3.out j hj2] at this;simpa [List.getD,hj,e] using this
   have Hok:Hid (F=s->peOk s):=fun e=>⟨h3,by rw[<-Hn.out,<-hF];exact e⟩
   have Hnot:Hid (F≠s-> ¬peOk s):=fun e hh=>e (by rw[hF,Hn.out];exact hh.2)
   rw[<-hF] at KF;clear h3 hF;by_cases hFs:F=s
   ·obtain⟨hN,hBo⟩:=Hyes.out (Hok.out hFs);have HN:=hh_ hN;have HBo:=hh_ hBo;clear hN hBo;subst hFs;clear Hno Hnot Hyes Hok;go_wp2_with fail
    refine KF.mono ?_;rintro e w2 ⟨rfl,hb2⟩;have HB2:Hid (Below w.heap.size w w2):=HB.trans (hb2.mono HB.size);have hz2:=hb2.size;have HO2:Hid (Own w2 w.heap.size w2.heap.size 48 3 (some ⟨g,0,none⟩) k c' (eds (peA F) (peV F) (peU F))):=(HO.keepB hb2 hg3).mono hg1 (by omega);clear hb2 HO HB HC;go_wp2;go_ret2;exact⟨some ⟨g,0,none⟩,c',by rw[HN.out,HBo.out,<-Hn.out];rfl,by rw[HN.out,<-Hn.out];exact HO2.out,HB2⟩
   ·obtain⟨hN,hBo⟩:=Hno.out (Hnot.out hFs);have HN:=hh_ hN;have HBo:=hh_ hBo;have e5:(F.toList==s.toList)=false:=beq_eq_false_iff_ne.2 (fun h=>hFs (Go.WideShapes.bytes_inj (by rw[<-ByteArray.toList_eq,<-ByteArray.toList_eq];exact h)));clear hN hBo Hno Hnot Hyes Hok;go_wp2_with fail
    refine KF.mono ?_;rintro e w2 ⟨rfl,hb2⟩;have HB2:Hid (Below w.heap.size w w2):=HB.trans (hb2.mono HB.size);have hz2:=HB2.size;clear hb2 HO HB HC;go_wp2;go_ret2;exact⟨some ⟨w2.heap.size,0,none⟩,0,by rw[HN.out,HBo.out];rfl,by rw[HN.out];exact(own_newE w2 _ _ _).mono hz2 nr_,HB2.alloc hz2 _⟩
theorem handed_shaped {H:Type} {enc:TypeId×Value->H} {a:Assume} {C:Checked} {os:Os} {f:FuncId} {fn:Func} {s:ChangeSpec} {conds:List PathCond} {apart fresh handsOn again:Bool} {X:World->Array Value->Prop}
 (hX: ∀(w w':World) (args:Array Value),w.heap=w'.heap->X w args->X w' args)
 (own:ownKnob C.prog.godebug=none) (started:os.Started) (noInit:C.prog.inits.idxOf? f=none) (hfn:C.prog.funcs[f]? =some fn)
 (witness: ∃(w:World) (tape:Tape) (i:Input),w.os=os/\(w.forCall tape i).Shaped C.prog/\i.vars= []/\Input.okWide C.prog (w.forCall tape i) .any w.heap.size f i/\
   ((s.pre enc C.prog fn conds apart (w.forCall tape i).memory i.args/\X (w.forCall tape i).memory i.args)/\sizedMet enc C.prog fn (OpenSpec.ofChange s) apart (w.forCall tape i).memory i.args)/\a.holds C.prog (lone (Frame.enter C.prog f i.args .normal) [] (w.forCall tape i)))
 (contract: ∀(W:World) (base:Nat) (args:Array Value) (ds gs:List (DataW H)) (before:List MemPlace),
   (∀(j:Nat) t v,fn.params[j]? =some t->args[j]? =some v->Value.okWide C.prog W .any base t v)->
   DataW.Whole enc C.prog fn.params.toList s.vars apart W args.toList ds gs before->W.ShapedOpen C.prog->X W args->
   a.holds C.prog (lone (Frame.enter C.prog f args .normal) [] W)->
   Calls C.prog f args W fun e W'=> ∃v,e=.returned v/\s.post enc C.prog fn apart fresh handsOn again W args v W'):
 ReturnsInHanded a C os f .any (fun w args=>(s.pre enc C.prog fn conds apart w args/\X w args)/\sizedMet enc C.prog fn (OpenSpec.ofChange s) apart w args) (s.post enc C.prog fn apart fresh handsOn again):=by
 refine returnsInHanded_of_calls own started noInit witness fun w tape i _ hsh _ hok hpre hholds=> ?_
 obtain⟨_,_,_,fn2,hfn2,_,_,_,_,hval⟩:=hok;obtain rfl:fn2=fn:=Option.some.inj (hfn2.symm.trans hfn);obtain⟨⟨⟨ds,gs,before,hw,_⟩,hx⟩,_⟩:=hpre;refine(contract (w.forCall tape i) w.heap.size i.args ds gs before hval (DataW.Whole.of_heap (w':=w.forCall tape i) (by rfl) hw) hsh (hX _ _ _ (by rfl) hx) hholds).mono fun e W' ⟨v,he,hp⟩=> ?_
 subst he;exact ChangeSpec.post_blind hp
def Mx (w:World):Prop:= ∃m,w.cell? ⟨laySplit_ren.g 1,0,none⟩=some (.int .i64 m)
theorem Mx.keep {w w':World} (h:Mx w) (hb:Below w.heap.size w w'):Mx w':=by
 obtain⟨m,hm⟩:=h;exact⟨m,(hb.cell (World.block_lt_of_cell? w _ hm)).trans hm⟩
theorem mx_of {w:World} (h:w.ShapedOpen Tryz.prog):Mx w:=
 Proofs.cell_of_shapedOpen_int (t:=3) (zero:= #[.int .i64 0]) h (of_decide_eq_true (by kernel_rfl)) (by kernel_rfl) rfl (by kernel_rfl) (by kernel_rfl) Tryz.underlying3
theorem ParseEdits_iL (s:ByteArray) (w:World) (hs:s.size<=1048576) (h:Mx w):
 Calls Tryz.prog 24 #[.string s] w fun e w'=> ∃A' c',e=.returned (.tuple #[.slice A' (peN s) c',.bool (pdB s)])/\Own w' w.heap.size w'.heap.size 48 3 A' (peN s) c' (eds (peA s) (peV s) (peU s))/\Below w.heap.size w w':=by
 obtain⟨m,hm⟩:=h;exact ParseEdits_i s m w hs hm (World.block_lt_of_cell? w _ hm)
theorem ParseEdits_sL (s:ByteArray) (w:World) (hs:s.size<=1048576):
 Calls Tryz.prog 26 #[.string s] w fun e w'=> ∃A' c',e=.returned (.tuple #[.slice A' (peN s) c',.bool (pdB s)])/\Own w' w.heap.size w'.heap.size 48 3 A' (peN s) c' (eds (peA s) (peV s) (peU s))/\Below w.heap.size w w':=ParseEdits_s s w hs
theorem peN_le {s:ByteArray}:peN s<=12:=by
 unfold peN;split
 ·omega
 ·split
  ·rename_i h;have h2:=h.2;by_cases hb:12<(peW s).length
   ·exfalso;rw[fmO_many hb] at h2;have:peW s= [[]]:=by rw[<-h2];rfl
    have:=h.1 [] (by rw[this];simp);simp at this
   ·omega
  ·omega
set_option maxHeartbeats 1600000
set_option maxRecDepth 100000 in
theorem EditsBetween_i (s1:Int) (A1:Option Addr) (m1 c1:Nat) (x1:Nat->Int) (s2:Int) (A2:Option Addr) (m2 c2:Nat) (x2:Nat->Int) (w:World) (B:Nat) (h1:Rd w B A1 m1 c1 x1) (h2:Rd w B A2 m2 c2 x2) (hB:B<=w.heap.size) (hm1:m1<=1048576) (hm2:m2<=1048576):
 Calls Tryz.prog 12 #[.agg #[.int .i64 s1,.slice A1 m1 c1],.agg #[.int .i64 s2,.slice A2 m2 c2]] w fun e w'=> ∃A' c',e=.returned (.tuple #[.slice A' (ebL s1 m1 x1 s2 m2 x2).length c',.bool (ebB s1 m1 x1 s2 m2 x2)])/\Own w' w.heap.size w'.heap.size 48 3 A' (ebL s1 m1 x1 s2 m2 x2).length c' (edT (ebL s1 m1 x1 s2 m2 x2))/\Below w.heap.size w w':=by
 obtain⟨W,hW⟩: ∃W,W=((w.alloc (Obj.cells #[.int .i64 s1,.slice A1 m1 c1] 26)).alloc (Obj.cells #[.int .i64 s2,.slice A2 m2 c2] 26)):=⟨_,rfl⟩;have HB:Hid (Below w.heap.size w W):=by rw[hW];exact(br_.alloc nr_ _).alloc (by simp) _
 have hsz:w.heap.size+2=W.heap.size:=by rw[hW];simp
 have hs0:w.heap.size<W.heap.size:=by omega
 have hs1:w.heap.size+1<W.heap.size:=by omega
 have e0:W.cell? ⟨w.heap.size,0,none⟩=some (.int .i64 s1):=by rw[hW];simp[go_sem]
 have e1:W.cell? ⟨w.heap.size,1,none⟩=some (.slice A1 m1 c1):=by rw[hW];simp[go_sem]
 have e2:W.cell? ⟨w.heap.size+1,0,none⟩=some (.int .i64 s2):=by rw[hW];simp[go_sem]
 have e3:W.cell? ⟨w.heap.size+1,1,none⟩=some (.slice A2 m2 c2):=by rw[hW];simp[go_sem]
 have k1:=h1.keep (HB.mono hB) nr_;have k2:=h2.keep (HB.mono hB) nr_;have HW:=hh_ hW;clear hW h1 h2;go_enter Tryz.func12,Tryz.ntmps12;go_wp2_with fail
 rw[<-HW.out];refine(IsGraph_any s1 A1 m1 c1 x1 W B k1 (by omega) hm1).mono ?_;rintro e w1 ⟨rfl,hb1⟩;have f0:=up hb1 e0 hs0;have f1:=up hb1 e1 hs0;have f2:=up hb1 e2 hs1;have f3:=up hb1 e3 hs1;have z1:=hb1.size;have HB1:=hh_ (HB.trans (hb1.mono (by omega)));have k1':=k1.keep (hb1.mono (by omega)) nr_;have k2':=k2.keep (hb1.mono (by omega)) nr_;have zz0:w.heap.size<w1.heap.size:=by omega
 have zz1:w.heap.size+1<w1.heap.size:=by omega
 clear HW HB e0 e1 e2 e3 hb1 k1 k2;cases ho1:okB s1 m1 x1
 ·have hno:Hid (ebB s1 m1 x1 s2 m2 x2=false):=by show ebB _ _ _ _ _ _=_;unfold ebB;rw[ho1];rfl
  have hL:Hid (ebL s1 m1 x1 s2 m2 x2= []):=by show ebL _ _ _ _ _ _=_;unfold ebL;rw[hno.out];rfl
  clear ho1;go_wp2;go_ret2;exact⟨none,0,by rw[hno.out,hL.out];rfl,by rw[hL.out];exact Own.nil _ _ _ _ _ _,HB1⟩
 ·have Ho1:=hh_ ho1;clear ho1;go_wp2_with fail
  refine(IsGraph_any s2 A2 m2 c2 x2 w1 B k2' (by omega) hm2).mono ?_;rintro e w2 ⟨rfl,hb2⟩;have g0:=up hb2 f0 zz0;have g1:=up hb2 f1 zz0;have g2:=up hb2 f2 zz1;have g3:=up hb2 f3 zz1;have z2:=hb2.size;have l1:=k1'.keep (hb2.mono (by omega)) nr_;have l2:=k2'.keep (hb2.mono (by omega)) nr_;have HB2:=hh_ (HB1.trans (hb2.mono (by omega)));have yy0:w.heap.size<w2.heap.size:=by omega
  have yy1:w.heap.size+1<w2.heap.size:=by omega
  clear HB1 f0 f1 f2 f3 k1' k2' hb2 zz0 zz1;cases ho2:okB s2 m2 x2
  ·have hno:Hid (ebB s1 m1 x1 s2 m2 x2=false):=by show ebB _ _ _ _ _ _=_;unfold ebB;rw[Ho1.out,ho2];rfl
   have hL:Hid (ebL s1 m1 x1 s2 m2 x2= []):=by show ebL _ _ _ _ _ _=_;unfold ebL;rw[hno.out];rfl
   clear ho2;go_wp2;go_ret2;exact⟨none,0,by rw[hno.out,hL.out];rfl,by rw[hL.out];exact Own.nil _ _ _ _ _ _,HB2⟩
  ·have Ho2:=hh_ ho2;clear ho2;by_cases hs:s1=s2
   ·have hyes:Hid (ebB s1 m1 x1 s2 m2 x2=true):=by show ebB _ _ _ _ _ _=_;unfold ebB;rw[Ho1.out,Ho2.out,decide_eq_true hs];rfl
    have hL:Hid (ebL s1 m1 x1 s2 m2 x2=eR false (pr m1) x1 x2++eR true (pr m1) x2 x1):=by show ebL _ _ _ _ _ _=_;unfold ebL;rw[hyes.out];rfl
    obtain⟨r1,es1,vg1,hx1⟩:=okB_ok Ho1.out;obtain⟨r2,es2,vg2,hx2⟩:=okB_ok Ho2.out;have em:m2=m1:=by omega
    subst em;have hn1:=vg1.n1;have hn7:=vg1.n7;obtain⟨b1,o1,rfl,lb1,hc1⟩:=l1.pos (by omega);obtain⟨b2,o2,rfl,lb2,hc2⟩:=l2.pos (by omega);have HX1:=hh_ hx1;have HX2:=hh_ hx2;have HV1:=hh_ vg1;have HV2:=hh_ vg2;have HC1:=hh_ hc1;have HC2:=hh_ hc2;subst hs;subst es1;clear es2 hx1 hx2 vg1 vg2 hc1 hc2 l1 l2 Ho1 Ho2;obtain⟨W3,hW3⟩: ∃W,W=((w2.alloc (Obj.cells #[] 48)).alloc (Obj.cells #[] 48)):=⟨_,rfl⟩;have hb3:Below w2.heap.size w2 W3:=by rw[hW3];exact(br_.alloc nr_ _).alloc (by simp) _
    have hz3:w2.heap.size+2=W3.heap.size:=by rw[hW3];simp
    have hE1:W3.heap[w2.heap.size]? =some (.cells #[] 48 (0,0)):=by rw[hW3];exact(Below.heap_alloc _ _ _ (by simp)).trans (heap_alloc_new w2 _)
    have hE2:W3.heap[w2.heap.size+1]? =some (.cells #[] 48 (0,0)):=by
     rw[hW3];have:=heap_alloc_new (w2.alloc (Obj.cells #[] 48)) (Obj.cells #[] 48);simpa using this
    have HW3:=hh_ hW3;have i0:=up hb3 g0 yy0;have i1:=up hb3 g1 yy0;have i3:=up hb3 g3 yy1;have HB3:Hid (Below w2.heap.size w2 W3):=hb3;have HE1:=hh_ hE1;have HE2:=hh_ hE2;clear hb3 hE1 hE2 hW3;go_wp2_with fail
    rw[<-HW3.out];clear HW3 g0 g1 g2 g3;refine(pairsOf_any m2 hn7 W3).mono ?_;rintro e w3 ⟨A',c',D,rfl,hD,hO,hb4⟩;have z3:=hb4.size;have j1:=up hb4 i1 (by omega);have j3:=up hb4 i3 (by omega);have HD:=hh_ hD;have HO:=hh_ hO;have hl21:D.length<=21:=by rw[pairs_len hD];exact length_pr_le hn7
    have HG1:Hid (Own w3 w2.heap.size (w2.heap.size+1) 48 3 (some ⟨w2.heap.size,0,none⟩) 0 0 (edT [])):=
     .inr ⟨w2.heap.size,#[],rfl,nr_,Nat.lt_succ_self _,(hb4.block _ (by omega)).trans HE1.out,nr_,by unfold maxLen;omega,rfl,fun j hj=>absurd hj (by simp)⟩
    have HG2:Hid (Own w3 (w2.heap.size+1) (w2.heap.size+1+1) 48 3 (some ⟨w2.heap.size+1,0,none⟩) 0 0 (edT [])):=
     .inr ⟨w2.heap.size+1,#[],rfl,nr_,Nat.lt_succ_self _,(hb4.block _ (by omega)).trans HE2.out,nr_,by unfold maxLen;omega,rfl,fun j hj=>absurd hj (by simp)⟩
    have HB4:Hid (Below w2.heap.size w2 w3):=HB3.trans (hb4.mono (by omega));have HB5:Hid (Below w.heap.size w w3):=HB2.trans (HB4.mono (by omega));clear hD hO hb4 i0 i1 i3 HB3 HE1 HE2 HB2;go_wp2;go_loopw [6,7,33] (fun l l2 i wr=> ∃(k g1 d1 g2 d2:Nat),k<=D.length/\i=.int .i64 k/\l=.slice (some ⟨g1,0,none⟩) (eR false ((pr m2).take k) x1 x2).length d1/\l2=.slice (some ⟨g2,0,none⟩) (eR true ((pr m2).take k) x2 x1).length d2/\(g1=w2.heap.size\/w3.heap.size<=g1)/\(g2=w2.heap.size+1\/w3.heap.size<=g2)/\g1≠g2/\g1<wr.heap.size/\g2<wr.heap.size/\Hid (Own wr g1 (g1+1) 48 3 (some ⟨g1,0,none⟩) (eR false ((pr m2).take k) x1 x2).length d1 (edT (eR false ((pr m2).take k) x1 x2)))/\Hid (Own wr g2 (g2+1) 48 3 (some ⟨g2,0,none⟩) (eR true ((pr m2).take k) x2 x1).length d2 (edT (eR true ((pr m2).take k) x2 x1)))/\Hid (OwnD wr W3.heap.size w3.heap.size A' c' D)/\Hid (Below w2.heap.size w3 wr)) (fun _ _ i _=>D.length-(intOf i).toNat)
    case atStart=>exact⟨0,w2.heap.size,0,w2.heap.size+1,0,Nat.zero_le _,rfl,rfl,rfl,.inl rfl,.inl rfl,by omega,by omega,by omega,HG1,HG2,HO,br_⟩
    case round=>
     obtain⟨k,g1,d1,g2,d2,hk,rfl,rfl,rfl,hg1,hg2,hg3,hg4,hg5,hG1,hG2,hE,hbr⟩:=hrel;have q1:=up hbr.out j1 (by omega);have q3:=up hbr.out j3 (by omega);have hzr:=hbr.size;by_cases hlt:k<D.length
     ·obtain⟨Ad,cd,v,u,hd,hpk,hvu,hum⟩:=pair_at HD.out hlt;obtain⟨gD,gd,rfl,rfl,r0,r1,r2,gd1,gd2⟩:=hE.pair2 hd;have a1:=(hbr.cell (p:=⟨b1,o1+v,none⟩) (by show b1<_;omega)).trans ((HB4.cell (p:=⟨b1,o1+v,none⟩) (by show b1<_;omega)).trans (HC1 v (by omega)));have a2:=(hbr.cell (p:=⟨b2,o2+v,none⟩) (by show b2<_;omega)).trans ((HB4.cell (p:=⟨b2,o2+v,none⟩) (by show b2<_;omega)).trans (HC2 v (by omega)));have y0:0<=x1 v:=by have:=HX1.out v (by omega);omega
      have y1:x1 v<16777216:=by have:=HX1.out v (by omega);have:=HV1.lt128 (v:=v) (by omega);omega
      have y2:0<=x2 v:=by have:=HX2.out v (by omega);omega
      have y3:x2 v<16777216:=by have:=HX2.out v (by omega);have:=HV2.lt128 (v:=v) (by omega);omega
      have i1:(k:Int)<D.length:=by omega
      have i2:(v:Int)<m2:=by omega
      have hlen1:(eR false ((pr m2).take k) x1 x2).length<=21:=by
       have:=eR_len (b:=false) (P:=(pr m2).take k) (x1:=x1) (x2:=x2);rw[List.length_take] at this;omega
      have hlen2:(eR true ((pr m2).take k) x2 x1).length<=21:=by
       have:=eR_len (b:=true) (P:=(pr m2).take k) (x1:=x2) (x2:=x1);rw[List.length_take] at this;omega
      have Hd:=hh_ hd;have Hp:=hh_ (take_pr hpk);clear hd hpk;obtain⟨t1,ht1⟩: ∃t,t=(x1 v).toNat.testBit u:=⟨_,rfl⟩;obtain⟨t2,ht2⟩: ∃t,t=(x2 v).toNat.testBit u:=⟨_,rfl⟩;have Ht1:=hh_ ht1;have Ht2:=hh_ ht2;clear ht1 ht2;have K1:Hid (∀w,Calls Tryz.prog 44 #[.int .i64 (x1 v),.int .i64 u] w fun e w'=>e=.returned (.bool t1)/\w'=w):=fun w=>(has_any (x1 v) u w y0 y1 (by omega) (by omega)).mono fun _ _ ⟨h1,h2⟩=>⟨by rw[h1,Int.toNat_natCast,<-Ht1.out],h2.symm⟩
      have K2:Hid (∀w,Calls Tryz.prog 44 #[.int .i64 (x2 v),.int .i64 u] w fun e w'=>e=.returned (.bool t2)/\w'=w):=fun w=>(has_any (x2 v) u w y2 y3 (by omega) (by omega)).mono fun _ _ ⟨h1,h2⟩=>⟨by rw[h1,Int.toNat_natCast,<-Ht2.out],h2.symm⟩
      go_wp2;go_quiet (first|(go_at_call 44;with_reducible exact Calls.quiet_of_same (K1.out _))|(go_at_call 44;with_reducible exact Calls.quiet_of_same (K2.out _)))
      have hG1':Hid (Own (wr.drewN nq) g1 (g1+1) 48 3 (some ⟨g1,0,none⟩) (eR false ((pr m2).take k) x1 x2).length d1 (edT (eR false ((pr m2).take k) x1 x2))):=hG1;have hG2':Hid (Own (wr.drewN nq) g2 (g2+1) 48 3 (some ⟨g2,0,none⟩) (eR true ((pr m2).take k) x2 x1).length d2 (edT (eR true ((pr m2).take k) x2 x1))):=hG2;have hE':Hid (OwnD (wr.drewN nq) W3.heap.size w3.heap.size (some ⟨gD,0,none⟩) c' D):=hE;have hbr':Hid (Below w2.heap.size w3 (wr.drewN nq)):=below_drewN hbr.out nq;have r1':(wr.drewN nq).cell? ⟨gd,0,none⟩=some (.int .i64 v):=r1;have r2':(wr.drewN nq).cell? ⟨gd,1,none⟩=some (.int .i64 u):=r2;have hzq:wr.heap.size=(wr.drewN nq).heap.size:=rfl;obtain⟨wq,hwq⟩: ∃W,W=wr.drewN nq:=⟨_,rfl⟩;rw[<-hwq] at hG1' hG2' hE' hbr' r1' r2' hzq ⊢;clear hwq hG1 hG2 hE hbr r1 r2 r0 q1 q3 a1 a2;cases t1<;>cases t2
      ·have n1:=hh_ (eR_snoc_no (b:=false) (P:=(pr m2).take k) (p:=(v,u)) (x1:=x1) (x2:=x2) (by show ((x1 v).toNat.testBit u&& !(x2 v).toNat.testBit u)=_;rw[<-Ht1.out];rfl));have n2:=hh_ (eR_snoc_no (b:=true) (P:=(pr m2).take k) (p:=(v,u)) (x1:=x2) (x2:=x1) (by show ((x2 v).toNat.testBit u&& !(x1 v).toNat.testBit u)=_;rw[<-Ht2.out];rfl));clear r1' r2';go_wp2;go_roundw;case rel=>exact⟨k+1,g1,d1,g2,d2,by omega,by go_num,by rw[Hp.out,n1.out],by rw[Hp.out,n2.out],hg1,hg2,hg3,by omega,by omega,by rw[Hp.out,n1.out];exact hG1',by rw[Hp.out,n2.out];exact hG2',hE',hbr'⟩
       case measure=>simp[intOf];omega
      ·have n1:=hh_ (eR_snoc_no (b:=false) (P:=(pr m2).take k) (p:=(v,u)) (x1:=x1) (x2:=x2) (by show ((x1 v).toNat.testBit u&& !(x2 v).toNat.testBit u)=_;rw[<-Ht1.out];rfl));have n2:=hh_ (eR_snoc_yes (b:=true) (P:=(pr m2).take k) (p:=(v,u)) (x1:=x2) (x2:=x1) (by show ((x2 v).toNat.testBit u&& !(x1 v).toNat.testBit u)=_;rw[<-Ht1.out,<-Ht2.out];rfl));go_wp2;go_region_held3 (fun z=>z.cell? ⟨gd,0,none⟩=some (.int .i64 v)/\z.cell? ⟨gd,1,none⟩=some (.int .i64 u))
        (first|(refine⟨?_,?_⟩<;>assumption)|go_keep|(refine⟨?_,?_⟩<;>(refine((hp.caged.2.2.2).cell (by show gd<_;simp;omega) (by show gd<g2\/g2+1<=gd;omega)).trans ?_;go_keep)))
        ((refine step_push _ (by rfl) _ _ _ (by rfl) 48 _ 3 24 Tryz.underlying27 info_edit rfl (by omega) g2 (g2+1) (some ⟨g2,0,none⟩) (eR true ((pr m2).take k) x2 x1).length d2 (edT (eR true ((pr m2).take k) x2 x1++ [(true,(v:Int),(u:Int))])) (by rfl) (((hG2'.out.alloc _).drew).congr (fun j hj=>(edT_left hj).symm)) (by simp;omega) wq.heap.size #[.bool true,.int .i64 v,.int .i64 u] 48 (0,0) 1 (heap_alloc_new wq _) (by rfl) rfl edT_news (by simp[Value.oneCell']) (by omega) (by omega) ?_;intro g' cap w4 hp))
       obtain⟨hq1,hq2,hq3,hq4⟩:=hp.caged;have hq5:g'=g2\/wq.heap.size<=g':=by
        rcases hq2 with h|h
        ·exact .inl h
        ·right;rw[h];simp
       have hq6:Fr g2 (g2+1) wq w4:=(((Fr.refl _ _ wq).alloc _).drew).trans hq4;have hz4:=hq6.size;have H2:Hid (Own w4 g' (g'+1) 48 3 (some ⟨g',0,none⟩) (eR true ((pr m2).take (k+1)) x2 x1).length cap (edT (eR true ((pr m2).take (k+1)) x2 x1))):=by
        show Own _ _ _ _ _ _ _ _ _;rw[Hp.out,n2.out,List.length_append];exact hq1
       have H1:=hh_ (hG1'.out.keep hq6 (by omega));have H3:=hh_ (hE'.out.keep hq6 (by omega));have H4:Hid (Below w2.heap.size w3 w4):=hbr'.out.trans (hq6.below (by omega) (by omega));clear hp hq1 hq2 hq4 hq6 hG1' hG2' hE' hbr' r1' r2';go_wp2;go_roundw;case rel=>exact⟨k+1,g1,d1,g',cap,by omega,by go_num,by rw[Hp.out,n1.out],by rw[Hp.out,n2.out,List.length_append];rfl,hg1,by omega,by omega,by omega,hq3,by rw[Hp.out,n1.out];exact H1,H2,H3,H4⟩
       case measure=>simp[intOf];omega
      ·have n1:=hh_ (eR_snoc_yes (b:=false) (P:=(pr m2).take k) (p:=(v,u)) (x1:=x1) (x2:=x2) (by show ((x1 v).toNat.testBit u&& !(x2 v).toNat.testBit u)=_;rw[<-Ht1.out,<-Ht2.out];rfl));have n2:=hh_ (eR_snoc_no (b:=true) (P:=(pr m2).take k) (p:=(v,u)) (x1:=x2) (x2:=x1) (by show ((x2 v).toNat.testBit u&& !(x1 v).toNat.testBit u)=_;rw[<-Ht2.out];rfl));go_wp2;go_region_held3 (fun z=>z.cell? ⟨gd,0,none⟩=some (.int .i64 v)/\z.cell? ⟨gd,1,none⟩=some (.int .i64 u))
        (first|(refine⟨?_,?_⟩<;>assumption)|go_keep|(refine⟨?_,?_⟩<;>(refine((hp.caged.2.2.2).cell (by show gd<_;simp;omega) (by show gd<g1\/g1+1<=gd;omega)).trans ?_;go_keep)))
        ((refine step_push _ (by rfl) _ _ _ (by rfl) 48 _ 3 24 Tryz.underlying27 info_edit rfl (by omega) g1 (g1+1) (some ⟨g1,0,none⟩) (eR false ((pr m2).take k) x1 x2).length d1 (edT (eR false ((pr m2).take k) x1 x2++ [(false,(v:Int),(u:Int))])) (by rfl) (((hG1'.out.alloc _).drew).congr (fun j hj=>(edT_left hj).symm)) (by simp;omega) wq.heap.size #[.bool false,.int .i64 v,.int .i64 u] 48 (0,0) 1 (heap_alloc_new wq _) (by rfl) rfl edT_news (by simp[Value.oneCell']) (by omega) (by omega) ?_;intro g' cap w4 hp))
       obtain⟨hq1,hq2,hq3,hq4⟩:=hp.caged;have hq5:g'=g1\/wq.heap.size<=g':=by
        rcases hq2 with h|h
        ·exact .inl h
        ·right;rw[h];simp
       have hq6:Fr g1 (g1+1) wq w4:=(((Fr.refl _ _ wq).alloc _).drew).trans hq4;have hz4:=hq6.size;have H1:Hid (Own w4 g' (g'+1) 48 3 (some ⟨g',0,none⟩) (eR false ((pr m2).take (k+1)) x1 x2).length cap (edT (eR false ((pr m2).take (k+1)) x1 x2))):=by
        show Own _ _ _ _ _ _ _ _ _;rw[Hp.out,n1.out,List.length_append];exact hq1
       have H2:=hh_ (hG2'.out.keep hq6 (by omega));have H3:=hh_ (hE'.out.keep hq6 (by omega));have H4:Hid (Below w2.heap.size w3 w4):=hbr'.out.trans (hq6.below (by omega) (by omega));clear hp hq1 hq2 hq4 hq6 hG1' hG2' hE' hbr' r1' r2';go_wp2;go_roundw;case rel=>exact⟨k+1,g',cap,g2,d2,by omega,by go_num,by rw[Hp.out,n1.out,List.length_append];rfl,by rw[Hp.out,n2.out],by omega,hg2,by omega,hq3,by omega,H1,by rw[Hp.out,n2.out];exact H2,H3,H4⟩
       case measure=>simp[intOf];omega
      ·have n1:=hh_ (eR_snoc_no (b:=false) (P:=(pr m2).take k) (p:=(v,u)) (x1:=x1) (x2:=x2) (by show ((x1 v).toNat.testBit u&& !(x2 v).toNat.testBit u)=_;rw[<-Ht1.out,<-Ht2.out];rfl));have n2:=hh_ (eR_snoc_no (b:=true) (P:=(pr m2).take k) (p:=(v,u)) (x1:=x2) (x2:=x1) (by show ((x2 v).toNat.testBit u&& !(x1 v).toNat.testBit u)=_;rw[<-Ht1.out,<-Ht2.out];rfl));clear r1' r2';go_wp2;go_roundw;case rel=>exact⟨k+1,g1,d1,g2,d2,by omega,by go_num,by rw[Hp.out,n1.out],by rw[Hp.out,n2.out],hg1,hg2,hg3,by omega,by omega,by rw[Hp.out,n1.out];exact hG1',by rw[Hp.out,n2.out];exact hG2',hE',hbr'⟩
       case measure=>simp[intOf];omega
     ·obtain rfl:k=D.length:=by omega
      have HF:Hid ((pr m2).take D.length=pr m2):=by show _=_;rw[pairs_len HD.out,List.take_length]
      have hT1:Hid (Own wr g1 (g1+1) 48 3 (some ⟨g1,0,none⟩) (eR false (pr m2) x1 x2).length d1 (edT (eR false (pr m2) x1 x2))):=by have:=hG1.out;rwa [HF.out] at this
      have hT2:Hid (Own wr g2 (g2+1) 48 3 (some ⟨g2,0,none⟩) (eR true (pr m2) x2 x1).length d2 (edT (eR true (pr m2) x2 x1))):=by have:=hG2.out;rwa [HF.out] at this
      have hp21:(pr m2).length<=21:=length_pr_le hn7;have hlen1:(eR false (pr m2) x1 x2).length<=21:=Nat.le_trans eR_len hp21;have hlen2:(eR true (pr m2) x2 x1).length<=21:=Nat.le_trans eR_len hp21;have HB6:Hid (Below w.heap.size w wr):=HB5.trans (hbr.mono (by omega));rw[HF.out];clear hG1 hG2 hE hbr;go_wp2_with (first|(at_builtin;(refine wpList_appendE wr rfl _ _ rfl w.heap.size g1 g2 d1 d2 (eR false (pr m2) x1 x2) (eR true (pr m2) x2 x1) hT1.out hT2.out rfl rfl (by omega) (by omega) (by omega) (by omega) ?_;intro A5 c5 w5 hO5 hb5)))
      have HO5:=hh_ hO5;have HB7:Hid (Below w.heap.size w w5):=HB6.trans hb5;clear hO5 hb5 hT1 hT2;go_ret2;exact⟨A5,c5,by rw[hyes.out,hL.out,List.length_append];rfl,by rw[hL.out];exact HO5.out,HB7⟩
   ·have hno:Hid (ebB s1 m1 x1 s2 m2 x2=false):=by show ebB _ _ _ _ _ _=_;unfold ebB;rw[Ho1.out,Ho2.out,decide_eq_false hs];rfl
    have hL:Hid (ebL s1 m1 x1 s2 m2 x2= []):=by show ebL _ _ _ _ _ _=_;unfold ebL;rw[hno.out];rfl
    have hne:(s1 !=s2)=true:=by simp[hs]
    clear hs;go_wp2;go_ret2;exact⟨none,0,by rw[hno.out,hL.out];rfl,by rw[hL.out];exact Own.nil _ _ _ _ _ _,HB2⟩
end Go.Proofs.YtfabbohijhjpcaaGreatDoor
