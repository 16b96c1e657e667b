/- Lemmas. -/
import Derived.Test.YtfabbohijhjpcaaGreatDoorRbFillS
/-
-/
namespace Go.Proofs.YtfabbohijhjpcaaGreatDoor
open Go.RowKit
def Ub (r:Nat->Nat) (l:List Nat) (i k j:Nat):Prop:=(r (l.getD i 0)).testBit (l.getD k 0)=true->(r (l.getD i 0)).testBit (l.getD j 0)=true/\(r (l.getD k 0)).testBit (l.getD j 0)=true
def Um (r:Nat->Nat) (l:List Nat):Prop:= ∀i k j,i<j->j<k->k<l.length->Ub r l i k j
noncomputable def umB (r:Nat->Nat) (l:List Nat):Bool:= @decide (Um r l) (Classical.propDecidable _)
section
variable {r:Nat->Nat} {l:List Nat}
theorem um_yes (h:Um r l):umB r l=true:= @decide_eq_true _ (Classical.propDecidable _) h
theorem um_no (h: ¬Um r l):umB r l=false:= @decide_eq_false _ (Classical.propDecidable _) h
def Um1 (r:Nat->Nat) (l:List Nat) (i:Nat):Prop:= ∀i',i'<i-> ∀k j,i'<j->j<k->k<l.length->Ub r l i' k j
def Um2 (r:Nat->Nat) (l:List Nat) (i k:Nat):Prop:= ∀k',k'<k-> ∀j,i<j->j<k'->Ub r l i k' j
def Um3 (r:Nat->Nat) (l:List Nat) (i k j:Nat):Prop:= ∀j',i<j'->j'<j->Ub r l i k j'
theorem Um1.zero:Um1 r l 0:=fun i' h=>absurd h (by omega)
theorem Um2.zero {i:Nat}:Um2 r l i (i+2):=fun k' h j h1 h2=>absurd h1 (by omega)
theorem Um3.zero {i k:Nat}:Um3 r l i k (i+1):=fun j' h1 h2=>absurd h1 (by omega)
theorem Um3.step {i k j:Nat} (h:Um3 r l i k j) (h2:Ub r l i k j):Um3 r l i k (j+1):=fun j' h3 h4=>by
 by_cases e:j'<j
 ·exact h j' h3 e
 ·obtain rfl:j'=j:=by omega
  exact h2
theorem Um2.step {i k:Nat} (h:Um2 r l i k) (h2:Um3 r l i k k):Um2 r l i (k+1):=fun k' h3 j h4 h5=>by
 by_cases e:k'<k
 ·exact h k' e j h4 h5
 ·obtain rfl:k'=k:=by omega
  exact h2 j h4 h5
theorem Um2.skip {i k:Nat} (h:Um2 r l i k) (h2:(r (l.getD i 0)).testBit (l.getD k 0)=false):Um2 r l i (k+1):=h.step fun j _ _ h3=>by rw[h2] at h3;cases h3
theorem Um1.step {i k:Nat} (h:Um1 r l i) (h2:Um2 r l i k) (hk:l.length<=k):Um1 r l (i+1):=fun i' h3 k' j h4 h5 h6=>by
 by_cases e:i'<i
 ·exact h i' e k' j h4 h5 h6
 ·obtain rfl:i'=i:=by omega
  exact h2 k' (by omega) j h4 h5
theorem Um1.all {i:Nat} (h:Um1 r l i) (hi:l.length<=i):Um r l:=fun i' k j h1 h2 h3=>h i' (by omega) k j h1 h2 h3
theorem um_bad {i k j:Nat} (h1:i<j) (h2:j<k) (h3:k<l.length) (h: ¬Ub r l i k j):umB r l=false:=um_no fun hu=>h (hu i k j h1 h2 h3)
end
def nats (l:List Int):List Nat:=l.map Int.toNat
theorem LI.ln {w:World} {A:Option Addr} {n c:Nat} {l:List Int} {m:Nat} (h:LI w A n c l) (hV:VZ m l):LN w A c (nats l):=by
 have hl:(nats l).length=n:=by rw[h.len];unfold nats;simp
 refine⟨?_⟩;rw[hl];refine h.rd.congr fun k hk=> ?_
 have hk2:k<l.length:=by rw[<-h.len];exact hk
 have:=(hV.2 _ (getD_mem hk2)).1;unfold nats;simp only[List.getD,List.getElem?_map,List.getElem?_eq_getElem hk2,Option.map_some,Option.getD_some] at this ⊢;omega
theorem getD_lt {m:Nat} {l:List Nat} (h: ∀v∈l,v<m) {j:Nat} (hj:j<l.length):l.getD j 0<m:=by
 have:l.getD j 0=l[j]:=by simp[List.getD,hj]
 rw[this];exact h _ (List.getElem_mem hj)
set_option maxHeartbeats 3200000
theorem has_q {s v:Nat} {b:Bool} (hs:s<128) (hv:v<64) (hb:s.testBit v=b): ∀w:World,Calls Tryz.prog 44 #[.int .i64 (s:Int),.int .i64 (v:Int)] w fun e w'=>e=.returned (.bool b)/\w'=w:=fun w=>
 (has_v w hs hv).mono fun _ _ ⟨h1,h2⟩=>⟨by rw[h1,hb],h2.symm⟩
theorem LN.cell {w:World} {b o c j:Nat} {l:List Nat} (h:LN w (some ⟨b,o,none⟩) c l) (hj:j<l.length):w.cell? ⟨b,o+j,none⟩=some (.int .i64 (l.getD j 0:Nat)):=by
 rw[h.at hj];simp[List.getD,hj]
set_option maxRecDepth 100000 in
theorem isUmbrella_v {A:Option Addr} {m c:Nat} {r:Nat->Nat} {Al:Option Addr} {cl:Nat} {l:List Nat} {w:World} (h:GV w A m c r) (hl:LN w Al cl l) (hlt: ∀v∈l,v<m) (hlen:l.length<=7):
 Calls Tryz.prog 241 #[.agg #[.int .i64 m,.slice A m c],.slice Al l.length cl] w fun e w'=>e=.returned (.bool (umB r l))/\Below w.heap.size w w':=by
 have hn7:=h.vg.n7;have HL:=hh_ hl;have Hlt:=hh_ hlt;have HV:=hh_ h.vg;obtain⟨b0,o0,rfl⟩:=h.addr;clear hl hlt;obtain⟨W,hW⟩: ∃W,W=(w.alloc (Obj.cells #[.int .i64 m,.slice (some ⟨b0,o0,none⟩) m c] 26)):=⟨_,rfl⟩;have HB:Hid (From w W):=by rw[hW];exact From.alloc _ _
 have HG:Hid (GBox W w.heap.size (some ⟨b0,o0,none⟩) m c r):=by rw[hW];exact h.box
 have HW:=hh_ hW;clear hW h;obtain⟨e0,e1⟩:=gx_ HG;replace HL:=hh_ (HL.keep HB.below);have HR0:Hid (From W W):=From.refl W;go_enter Tryz.func241,Tryz.ntmps241;go_wp2_with fail
 rw[<-HW.out];clear HW e0 e1;go_wp2;go_loopw [11] (fun i wr=> ∃k:Nat,k<=l.length/\i=.int .i64 k/\Hid (Um1 r l k)/\Hid (From W wr)) (fun i _=>l.length-(intOf i).toNat);case atStart=>exact⟨0,Nat.zero_le _,rfl,Um1.zero,HR0⟩
 case round=>
  clear HR0;obtain⟨i,hi,rfl,H1,HR⟩:=hrel;by_cases hil:i<l.length
  ·have i1:(i:Int)<l.length:=by omega
   have s1:wrap64 ((i:Int)+2)=((i+2:Nat):Int):=by rw[Go.IntWalk.wrap64_in _ (by omega)];simp
   have s2:IntKind.i64.wrap ((i:Int)+2)=((i+2:Nat):Int):=by rw[Go.IntWalk.i64_in _ (by omega)];simp
   go_wp2;go_loopw [6] (fun j wr=> ∃k:Nat,i+2<=k/\k<=l.length+1/\j=.int .i64 k/\Hid (Um2 r l i k)/\Hid (From W wr)) (fun j _=>l.length+1-(intOf j).toNat);case atStart=>exact⟨i+2,nr_,by omega,by first|rfl|exact congrArg (Value.int .i64) s1|simp,Um2.zero,HR⟩
   case round=>
    clear HR s1 s2;obtain⟨k,hk2,hk,rfl,H2,HR⟩:=hrel;by_cases hkl:k<l.length
    ·have i2:(k:Int)<l.length:=by omega
     have HGr:=hh_ (HG.keep HR.below);have HLr:=hh_ (HL.keep HR.below);obtain⟨bl,ol,rfl⟩:=HLr.addr (by omega);have e1:=HGr.c1;have p0:=HLr.cell hil;have p1:=HLr.cell hkl;have hu:=getD_lt Hlt.out hil;have hv:=getD_lt Hlt.out hkl;obtain⟨u,hu'⟩: ∃u,u=l.getD i 0:=⟨_,rfl⟩;obtain⟨v,hv'⟩: ∃v,v=l.getD k 0:=⟨_,rfl⟩;rw[<-hu'] at p0 hu;rw[<-hv'] at p1 hv;have Hu:=hh_ hu';have Hv:=hh_ hv';have q0:=HGr.gv.row hu;have hr:=HV.lt128 hu;obtain⟨x,hx⟩: ∃x,x=r u:=⟨_,rfl⟩;rw[<-hx] at q0 hr;have i3:(u:Int)<m:=by omega
     have Hx:=hh_ hx;clear hu' hv' hx;cases he:x.testBit v
     ·have K1:=hh_ (has_q hr (by omega) he);have H2':Hid (Um2 r l i (k+1)):=H2.skip (by rw[<-Hu.out,<-Hv.out,<-Hx.out];exact he);clear he;go_wp2;go_quiet (first|(go_at_call 44;with_reducible exact Calls.quiet_of_same (K1.out _)))
      go_wp2;go_roundw;case rel=>exact⟨k+1,by omega,by omega,by go_num,H2',HR.drewN _⟩
      case measure=>simp[intOf]<;>omega
     ·have K1:=hh_ (has_q hr (by omega) he);have He:=hh_ he;have s1:wrap64 ((i:Int)+1)=((i+1:Nat):Int):=by rw[Go.IntWalk.wrap64_in _ (by omega)];simp
      have s2:IntKind.i64.wrap ((i:Int)+1)=((i+1:Nat):Int):=by rw[Go.IntWalk.i64_in _ (by omega)];simp
      have hcl:=HLr.le;clear he;go_wp2;go_quiet (first|(go_at_call 44;with_reducible exact Calls.quiet_of_same (K1.out _)))
      have HRq:Hid (From W (wr.drewN nq)):=HR.drewN _;obtain⟨wq,hwq⟩: ∃wq,wq=wr.drewN nq:=⟨_,rfl⟩;rw[<-hwq] at HRq ⊢;clear hwq HGr HLr e1 p0 p1 q0 HR K1;go_wp2;go_loopw [42] (fun j wr=> ∃t:Nat,t<=k-(i+1)/\j=.int .i64 t/\Hid (Um3 r l i k (i+1+t))/\Hid (From W wr)) (fun j _=>k-(i+1)-(intOf j).toNat);case atStart=>exact⟨0,Nat.zero_le _,rfl,Um3.zero,HRq⟩
      case round=>
       clear HRq s1 s2;obtain⟨t,ht,rfl,H3,HR⟩:=hrel;by_cases htk:t<k-(i+1)
       ·have i4:(t:Int)<((k-(i+1):Nat):Int):=by omega
        have HGr:=hh_ (HG.keep HR.below);have HLr:=hh_ (HL.keep HR.below);have e1:=HGr.c1;have p0:=HLr.cell hil;have p1:=HLr.cell hkl;rw[<-Hu.out] at p0;rw[<-Hv.out] at p1;have hj:i+1+t<l.length:=by omega
        have p2:=HLr.cell hj;have hy:=getD_lt Hlt.out hj;obtain⟨y,hy'⟩: ∃y,y=l.getD (i+1+t) 0:=⟨_,rfl⟩;rw[<-hy'] at p2 hy;have Hy:=hh_ hy';rw[show ol+(i+1+t)=ol+(i+1)+t by omega] at p2;have q0:=HGr.gv.row hu;rw[<-Hx.out] at q0;have q1:=HGr.gv.row hv;have hr2:=HV.lt128 hv;obtain⟨x2,hx2⟩: ∃x2,x2=r v:=⟨_,rfl⟩;rw[<-hx2] at q1 hr2;have Hx2:=hh_ hx2;have i5:(v:Int)<m:=by omega
        have HBr:=hh_ (HB.up HR.out);clear hy' hx2 hj;cases h1:x.testBit y
        ·have K1:=hh_ (has_q hr (by omega) h1);have Hn:Hid (umB r l=false):=um_bad (i:=i) (k:=k) (j:=i+1+t) (by omega) (by omega) hkl fun hb=>by
          have:=(hb (by rw[<-Hu.out,<-Hv.out,<-Hx.out];exact He.out)).1;rw[<-Hu.out,<-Hy.out,<-Hx.out,h1] at this;cases this
         clear h1;go_wp2;go_quiet (first|(go_at_call 44;with_reducible exact Calls.quiet_of_same (K1.out _)))
         go_wp2;go_ret;exact⟨ret_bool Hn.symm,(HBr.drewN _).below⟩
        ·have K1:=hh_ (has_q hr (by omega) h1);have H1':=hh_ h1;clear h1;cases h2:x2.testBit y
         ·have K2:=hh_ (has_q hr2 (by omega) h2);have Hn:Hid (umB r l=false):=um_bad (i:=i) (k:=k) (j:=i+1+t) (by omega) (by omega) hkl fun hb=>by
           have:=(hb (by rw[<-Hu.out,<-Hv.out,<-Hx.out];exact He.out)).2;rw[<-Hv.out,<-Hy.out,<-Hx2.out,h2] at this;cases this
          clear h2;go_wp2;go_quiet (first|(go_at_call 44;with_reducible exact Calls.quiet_of_same (K1.out _))|(go_at_call 44;with_reducible exact Calls.quiet_of_same (K2.out _)))
          go_wp2;go_ret;exact⟨ret_bool Hn.symm,(HBr.drewN _).below⟩
         ·have K2:=hh_ (has_q hr2 (by omega) h2);have H3':Hid (Um3 r l i k (i+1+(t+1))):=H3.step fun _=>⟨by rw[<-Hu.out,<-Hy.out,<-Hx.out];exact H1'.out,by rw[<-Hv.out,<-Hy.out,<-Hx2.out];exact h2⟩
          clear h2;go_wp2;go_quiet (first|(go_at_call 44;with_reducible exact Calls.quiet_of_same (K1.out _))|(go_at_call 44;with_reducible exact Calls.quiet_of_same (K2.out _)))
          go_wp2;go_roundw;case rel=>exact⟨t+1,by omega,by go_num,H3',HR.drewN _⟩
          case measure=>simp[intOf]<;>omega
       ·have H2':Hid (Um2 r l i (k+1)):=H2.step fun j h1 h2=>H3.out j h1 (by omega)
        have i4:((k-(i+1):Nat):Int)<=(t:Int):=by omega
        go_wp2;go_roundw;case rel=>exact⟨k+1,by omega,by omega,by go_num,H2',HR⟩
        case measure=>simp[intOf]<;>omega
    ·have H1':Hid (Um1 r l (i+1)):=H1.step H2.out (by omega);have i2:(l.length:Int)<=(k:Int):=by omega
     go_wp2;go_roundw;case rel=>exact⟨i+1,by omega,by go_num,H1',HR⟩
     case measure=>simp[intOf]<;>omega
  ·have Hy:Hid (umB r l=true):=um_yes (H1.all (by omega));have HBr:=hh_ (HB.up HR.out);have i1:(l.length:Int)<=(i:Int):=by omega
   go_wp2;go_ret;exact⟨ret_bool Hy.symm,HBr.below⟩
set_option maxHeartbeats 1600000
noncomputable def umO (r:Nat->Nat) (m:Nat):Option (List Nat):=seaG m (umB r) (fun _=>true) m []
noncomputable def ppB (sz:Int) (m:Nat) (x:Nat->Int):Bool:=okB sz m x&&(umO (rw_ x) m).isSome
theorem ppB_no {sz:Int} {m:Nat} {x:Nat->Int} (h:okB sz m x=false):ppB sz m x=false:=by unfold ppB;rw[h];rfl
theorem ppB_yes {sz:Int} {m:Nat} {x:Nat->Int} (h:okB sz m x=true):ppB sz m x=(umO (rw_ x) m).isSome:=by unfold ppB;rw[h];rfl
set_option maxRecDepth 100000 in
theorem UmoF {A:Option Addr} {m c q:Nat} {r:Nat->Nat} {Al:Option Addr} {cl:Nat} {l:List Nat} {w:World} (h:GBox w q A m c r) (hl:LN w Al cl l) (hlt: ∀v∈l,v<m) (hlen:l.length<=7):
 Calls Tryz.prog 240 #[.slice Al l.length cl,.pointer (some ⟨q,0,none⟩)] w fun e w'=>e=.returned (.bool (umB r l))/\Below w.heap.size w w':=by
 have HG:=hh_ h;have HL:=hh_ hl;have Hlt:=hh_ hlt;have e0:=h.c0;have e1:=h.c1;have HF:Hid (From w w):=From.refl w;clear h hl hlt;go_enter Tryz.func240,Tryz.ntmps240;go_wp2_with fail
 refine(isUmbrella_v HG.gv HL.out Hlt.out hlen).mono ?_;rintro e w1 ⟨rfl,hb1⟩;replace HF:=hh_ (HF.keep hb1);clear hb1;go_wp2;go_ret;exact⟨rfl,HF.below⟩
section
variable {A:Option Addr} {m c:Nat} {r:Nat->Nat}
set_option maxRecDepth 100000 in
theorem UmbrellaOf_v {w:World} (h:GV w A m c r):Calls Tryz.prog 163 #[.agg #[.int .i64 m,.slice A m c]] w (lsQ w (umO r m)):=by
 have hm1:=h.vg.n1;have hm7:=h.vg.n7;obtain⟨W,hW,HB,HG⟩:=gbW h;have HW:=hh_ hW;clear hW h;obtain⟨e0,e1⟩:=gx_ HG;have HG0:=HG;have KF:=hh_ (firstList_g (m:=m) (n:=m) (A:=A) (c:=c) (r:=r) (fm:=240) (cm:= #[.pointer (some ⟨w.heap.size,0,none⟩)]) (fh:=210) (ch:= #[]) (may:=umB r) (hol:=fun _=>true) (lo:=W.heap.size) (hi:=W.heap.size) (J:=fun _ z=>GBox z w.heap.size A m c r)
  (ent_of Tryz.func240 (by kernel_rfl) rfl) (ent_of Tryz.func210 (by kernel_rfl) rfl) W HG0.gv hm1 nr_ (fun _ z z' hz hb=>hz.keep hb) HG0.out
  (fun _ l A' c' z hz hr _ hv hn=>UmoF hz ⟨hr⟩ hv (by have:=nodup_len hn hv;omega))
  (fun _ l A' c' z hz _ _ _ _=>(always_n A' l.length c' z).mono fun e w' ⟨h1,h2⟩=>⟨h1,hz.keep h2,Fr.of_below h2⟩))
 have HO:Hid (umO r m=seaG m (umB r) (fun _=>true) m []):=rfl;obtain⟨o,ho⟩: ∃o,o=umO r m:=⟨_,rfl⟩;rw[<-ho] at HO ⊢;rw[<-HO.out] at KF;clear ho HO;go_enter Tryz.func163,Tryz.ntmps163;obtain⟨e0,e1⟩:=gx_ HG;go_wp2_with fail
 rw[<-HW.out];clear HW;refine KF.mono ?_;rintro e w1 ⟨hf,hp⟩;have HB1:Hid (Below w.heap.size w w1):=HB.below.trans (hf.below HB.below.size HB.below.size);have HZ:Hid (w.heap.size<=W.heap.size):=HB.below.size;clear hf KF HG e0 e1;cases o with
 |none=>
  obtain⟨rfl,_⟩:=hp;go_wp2;go_ret2;exact lsQ.no HB1.out
 |some l=>
  obtain⟨g,c',rfl,hO⟩:=hp;have HL:Hid (ON w.heap.size w1 (some ⟨g,0,none⟩) c' l):=⟨hO.mono HZ.out nr_⟩;clear hO;go_wp2;go_ret2;exact lsQ.yes HL.out HB1.out
end
set_option maxRecDepth 100000 in
theorem firstList_noG {sz:Int} {A:Option Addr} {m c:Nat} {x:Nat->Int} {w:World} {n:Int} {fm fh:FuncId} {cm ch:Array Value} (h:GA w A m c x) (hm:m<=1048576) (hok:okB sz m x=false):
 Calls Tryz.prog 203 #[.agg #[.int .i64 sz,.slice A m c],.int .i64 n,.func (.func fm) #[] cm,.func (.func fh) #[] ch] w fun e w'=>e=.returned (.tuple #[.slice none 0 0,.bool false])/\Below w.heap.size w w':=by
 obtain⟨W4,hW4⟩: ∃W,W=((((w.alloc (Obj.cells #[.int .i64 sz,.slice A m c] 26)).alloc (Obj.cells #[.int .i64 n] 3)).alloc (Obj.cells #[.func (.func fm) #[] cm] 152)).alloc (Obj.cells #[.func (.func fh) #[] ch] 152)):=⟨_,rfl⟩;have HF4:Hid (From w W4):=by rw[hW4];exact(((From.alloc _ _).alloc_ _).alloc_ _).alloc_ _
 have hz4:w.heap.size+1+1+1+1=W4.heap.size:=by rw[hW4];simp
 have a0:W4.cell? ⟨w.heap.size,0,none⟩=some (.int .i64 sz):=by rw[hW4];simp[go_sem]
 have a1:W4.cell? ⟨w.heap.size,1,none⟩=some (.slice A m c):=by rw[hW4];simp[go_sem]
 obtain⟨W,hW⟩: ∃W,W=W4.alloc (Obj.cells #[.func (.func 282) #[] #[.pointer (some ⟨w.heap.size+1,0,none⟩),.pointer (some ⟨w.heap.size+1+1+1,0,none⟩),.pointer (some ⟨w.heap.size,0,none⟩),.pointer (some ⟨w.heap.size+1+1,0,none⟩),.pointer (some ⟨W4.heap.size,0,none⟩)]] 86):=⟨_,rfl⟩;have hbW:Below W4.heap.size W4 W:=by rw[hW];exact br_.alloc nr_ _
 have HB:Hid (From w W):=HF4.keep hbW;have c1:w.heap.size<W4.heap.size:=by omega
 have e0:=up hbW a0 (by omega);have e1:=up hbW a1 (by omega);have HK:=hh_ (h.keep HB.below);have HW:=hh_ hW;have HW4:=hh_ hW4;have HZ4:=hh_ hz4;have Ho:=hh_ hok;clear hW hW4 h hz4 hbW hok HF4;go_enter Tryz.func203,Tryz.ntmps203;go_upto_region 2 with (fail)
 rw[<-HW4.out,HZ4.out];clear HW4;go_wp2_with fail
 rw[<-HW.out];clear HW;refine(IsGraph_any sz A m c x W W.heap.size HK.rd nr_ hm).mono ?_;rintro e w1 ⟨rfl,hb1⟩;rw[Ho.out];replace HB:=hh_ (HB.keep hb1);clear hb1 e0 e1 a0 a1;go_wp2;go_ret2;exact⟨rfl,HB.below⟩
section
variable (sz:Int) (A:Option Addr) (m c:Nat) (x:Nat->Int) (w:World)
set_option maxRecDepth 100000 in
theorem UmbrellaOf_no (h:GA w A m c x) (hm:m<=1048576) (hok:okB sz m x=false):
 Calls Tryz.prog 163 #[.agg #[.int .i64 sz,.slice A m c]] w (lsQ w none):=by
 obtain⟨W,hW,HB,HK,HC⟩:=gaW sz h;have HW:=hh_ hW;have KF:=hh_ (firstList_noG (n:=sz) (fm:=240) (cm:= #[.pointer (some ⟨w.heap.size,0,none⟩)]) (fh:=210) (ch:= #[]) HK hm hok);clear hW h hok;go_enter Tryz.func163,Tryz.ntmps163;obtain⟨e0,e1⟩:=gc_ HC;go_wp2_with fail
 rw[<-HW.out];clear HW;refine KF.mono ?_;rintro e w1 ⟨rfl,hb1⟩;clear e0 e1;replace HB:=hh_ (HB.keep hb1);replace HK:=hh_ (HK.keep hb1);replace HC:=hh_ (HC.keep hb1);clear hb1 KF;obtain⟨e0,e1⟩:=gc_ HC;go_wp2;go_ret2;exact lsQ.no HB.below
set_option maxRecDepth 100000 in
theorem IsProper_i (h:GA w A m c x) (hm:m<=1048576):
 Calls Tryz.prog 100 #[.agg #[.int .i64 sz,.slice A m c]] w fun e w'=>e=.returned (.bool (ppB sz m x))/\Below w.heap.size w w':=by
 obtain⟨W,hW,HB,HK,HC⟩:=gaW sz h;have HW:=hh_ hW;clear hW h;go_enter Tryz.func100,Tryz.ntmps100;cases ho:okB sz m x
 ·have Hn:Hid (ppB sz m x=false):=ppB_no ho;have KF:=hh_ (UmbrellaOf_no sz A m c x W HK hm ho);clear ho;obtain⟨e0,e1⟩:=gc_ HC;go_wp2_with fail
  rw[<-HW.out];refine(KF.out).mono ?_;rintro e w1 ⟨A',c',rfl,_,hb1⟩;clear HW;clear e0 e1;obtain⟨HB,HK,HC,e0,e1⟩:=kC_ HB HK HC hb1;clear hb1;clear KF;go_wp2;go_ret;exact⟨ret_bool Hn.symm,HB.below⟩
 obtain⟨_,es,_,_⟩:=okB_ok' ho;subst es;have Hn:Hid (ppB (m:Int) m x=(umO (rw_ x) m).isSome):=ppB_yes ho;have HG:Hid (GBox W w.heap.size A m c (rw_ x)):=⟨HK.gv ho,HC.c0,HC.c1,HC.lt⟩;have KF:=hh_ (UmbrellaOf_v HG.gv);obtain⟨o,ho2⟩: ∃o,o=umO (rw_ x) m:=⟨_,rfl⟩;rw[<-ho2] at Hn KF;clear ho ho2 HC HK;cases o
 ·skip;obtain⟨e0,e1⟩:=gx_ HG;go_wp2_with fail
  rw[<-HW.out];refine(KF.out).mono ?_;rintro e w2 ⟨A',c',rfl,_,hb2⟩;clear HW;clear e0 e1;obtain⟨HB,HG,e0,e1⟩:=kG_ HB HG hb2;clear hb2;clear KF;go_wp2;go_ret;exact⟨ret_bool Hn.symm,HB.below⟩
 ·skip;obtain⟨e0,e1⟩:=gx_ HG;go_wp2_with fail
  rw[<-HW.out];refine(KF.out).mono ?_;rintro e w3 ⟨A',c',rfl,_,hb3⟩;clear HW;clear e0 e1;obtain⟨HB,HG,e0,e1⟩:=kG_ HB HG hb3;clear hb3;clear KF;go_wp2;go_ret;exact⟨ret_bool Hn.symm,HB.below⟩
end
def nN (r:Nat->Nat) (s u:Nat):Nat:=(r u|||2^u)&&&s
def Cm (a b:Nat):Prop:=a&&&b=a\/a&&&b=b
def Sm (r:Nat->Nat) (s:Nat) (T:List Nat):Prop:= ∀i,i<T.length-> ∀k,k<i->Cm (nN r s (T.getD i 0)) (nN r s (T.getD k 0))
def Sm1 (r:Nat->Nat) (s:Nat) (T:List Nat) (n:Nat):Prop:= ∀i,i<n-> ∀k,k<i->Cm (nN r s (T.getD i 0)) (nN r s (T.getD k 0))
noncomputable def simB (r:Nat->Nat) (v s:Nat):Bool:=s.testBit v&& @decide (Sm r s (listN (nN r s v))) (Classical.propDecidable _)
section
variable {r:Nat->Nat} {s v n i k a b:Nat} {T:List Nat}
theorem sim_out (h:s.testBit v=false):simB r v s=false:=by unfold simB;rw[h];rfl
theorem sim_yes (h:s.testBit v=true) (h2:Sm r s (listN (nN r s v))):simB r v s=true:=by unfold simB;rw[h,@decide_eq_true _ (Classical.propDecidable _) h2];rfl
theorem sim_no (hT:T=listN (nN r s v)) (hi:i<T.length) (hk:k<i) (h: ¬Cm (nN r s (T.getD i 0)) (nN r s (T.getD k 0))):simB r v s=false:=by
 unfold simB;rw[@decide_eq_false _ (Classical.propDecidable _) fun hb=>h (by subst hT;exact hb i hi k hk),Bool.and_false]
theorem Sm1.zero:Sm1 r s T 0:=fun i h=>absurd h (by omega)
theorem Sm1.step (h:Sm1 r s T n) (h2: ∀k,k<n->Cm (nN r s (T.getD n 0)) (nN r s (T.getD k 0))):Sm1 r s T (n+1):=fun i hi=>by
 by_cases e:i<n
 ·exact h i e
 ·obtain rfl:i=n:=by omega
  exact h2
theorem nN_lt (hs:s<2^n):nN r s v<2^n:=Nat.and_lt_two_pow _ hs
theorem xor_and (a b:Nat):(a^^^(a&&&b)=0)↔a&&&b=a:=by
 constructor
 ·intro h;apply Nat.eq_of_testBit_eq;intro i;have:=congrArg (fun t=>t.testBit i) h;simp only[Nat.testBit_xor,Nat.testBit_and,Nat.zero_testBit] at this ⊢;cases ha:a.testBit i<;>cases hb:b.testBit i<;>simp_all
 ·intro h;rw[h,Nat.xor_self]
theorem cm_of (h:(a^^^(a&&&b)=0)\/(b^^^(b&&&a)=0)):Cm a b:=by
 rw[xor_and,xor_and] at h;rcases h with h|h
 ·exact .inl h
 ·exact .inr (by rw[Nat.and_comm];exact h)
theorem cm_not (h1:a^^^(a&&&b)≠0) (h2:b^^^(b&&&a)≠0): ¬Cm a b:=by
 rw[Ne,xor_and] at h1 h2;rintro(h|h)
 ·exact h1 h
 ·exact h2 (by rw[Nat.and_comm];exact h)
end
def nK (r:Nat->Nat) (s:Nat) (T:List Nat) (k:Nat):List Nat:=(List.range k).map fun j=>nN r s (T.getD j 0)
theorem nK_len {r:Nat->Nat} {s:Nat} {T:List Nat} {k:Nat}:(nK r s T k).length=k:=by unfold nK;simp
theorem nK_succ {r:Nat->Nat} {s:Nat} {T:List Nat} {k:Nat}:nK r s T (k+1)=nK r s T k++ [nN r s (T.getD k 0)]:=by unfold nK;rw[List.range_succ,List.map_append];rfl
theorem nK_at {r:Nat->Nat} {s:Nat} {T:List Nat} {k j:Nat} (h:j<k):(nK r s T k).getD j 0=nN r s (T.getD j 0):=by unfold nK;simp[List.getD,h]
set_option maxHeartbeats 6400000
theorem within_t {n lo hi:Int} (w:World) (h1:lo<=n) (h2:n<=hi):Calls Tryz.prog 60 #[.int .i64 n,.int .i64 lo,.int .i64 hi] w fun e w'=>e=.returned (.bool true)/\Below w.heap.size w w':=
 (within_yes n lo hi w h1 h2).mono fun _ _ ⟨h1,h2⟩=>⟨h1,h2▸br_⟩
theorem has_bb {s v:Nat} {b:Bool} (hs:s<128) (hv:v<64) (hb:s.testBit v=b) (w:World):Calls Tryz.prog 44 #[.int .i64 (s:Int),.int .i64 (v:Int)] w fun e w'=>e=.returned (.bool b)/\Below w.heap.size w w':=
 (has_v w hs hv).mono fun _ _ ⟨h1,h2⟩=>⟨by rw[h1,hb],h2▸br_⟩
set_option maxRecDepth 100000 in
theorem IsSimple_v {A:Option Addr} {m c:Nat} {r:Nat->Nat} {s v:Nat} {w:World} (h:GV w A m c r) (hs:s<2^m) (hv:v<m):
 Calls Tryz.prog 250 #[.agg #[.int .i64 m,.slice A m c],.int .i64 v,.int .i64 s] w fun e w'=>e=.returned (.bool (simB r v s))/\Below w.heap.size w w':=by
 have hn7:=h.vg.n7;have h128:=two_pow_le hn7;have HV:=hh_ h.vg;obtain⟨b0,o0,rfl⟩:=h.addr;obtain⟨W,hW⟩: ∃W,W=(w.alloc (Obj.cells #[.int .i64 m,.slice (some ⟨b0,o0,none⟩) m c] 26)):=⟨_,rfl⟩;have HB:Hid (From w W):=by rw[hW];exact From.alloc _ _
 have HG:Hid (GBox W w.heap.size (some ⟨b0,o0,none⟩) m c r):=by rw[hW];exact h.box
 have HW:=hh_ hW;clear hW h;obtain⟨e0,e1⟩:=gx_ HG;go_enter Tryz.func250,Tryz.ntmps250;go_wp2_with fail
 rw[<-HW.out];refine(IsSet_v HG.gv hs).mono ?_;rintro e w1 ⟨rfl,hb1⟩;clear HW;clear e0 e1;obtain⟨HB,HG,e0,e1⟩:=kG_ HB HG hb1;clear hb1;have s1:wrap64 ((m:Int)-1)=(m:Int)-1:=Go.IntWalk.wrap64_in _ (by omega);go_wp2_with fail
 refine(within_t (n:=(v:Int)) (lo:=0) (hi:=(m:Int)-1) w1 (by omega) (by omega)).mono ?_;rintro e w2 ⟨rfl,hb2⟩;clear e0 e1;obtain⟨HB,HG,e0,e1⟩:=kG_ HB HG hb2;clear hb2;cases hb:s.testBit v
 ·have Hn:Hid (simB r v s=false):=sim_out hb;have KH:=hh_ (has_bb (s:=s) (v:=v) (by omega) (by omega) hb w2);clear hb;go_wp2_with fail
  refine(KH.out).mono ?_;rintro e w3 ⟨rfl,hb3⟩;clear e0 e1;obtain⟨HB,HG,e0,e1⟩:=kG_ HB HG hb3;clear hb3;go_wp2;go_ret;exact⟨ret_bool Hn.symm,HB.below⟩
 have KH:=hh_ (has_bb (s:=s) (v:=v) (by omega) (by omega) hb w2);have Hb:=hh_ hb;clear hb;go_wp2_with fail
 refine KH.mono ?_;rintro e w3 ⟨rfl,hb3⟩;clear e0 e1;replace HB:=hh_ (HB.keep hb3);replace HG:=hh_ (HG.keep hb3);clear hb3 KH;obtain⟨e0,e1⟩:=gx_ HG;obtain⟨W3,hW3⟩: ∃W3,W3=(w3.alloc (Obj.cells #[] 3)):=⟨_,rfl⟩;have HR3:Hid (From w3 W3):=by rw[hW3];exact From.alloc _ _
 have HON:Hid (ON w3.heap.size W3 (some ⟨w3.heap.size,0,none⟩) 0 []):=by rw[hW3];exact ON.nil w3
 have hz3:W3.heap.size=w3.heap.size+1:=by rw[hW3];simp
 have HW3:=hh_ hW3;clear hW3;have HB3:Hid (w.heap.size<w3.heap.size):=HG.lt;have HB0:Hid (b0<w3.heap.size):=HG.gv.bl;clear e0 e1;replace HB:=hh_ (HB.keep HR3.below);replace HG:=hh_ (HG.keep HR3.below);obtain⟨e0,e1⟩:=gx_ HG;have q0:=HG.gv.row hv;have hrv:=HV.lt128 hv;obtain⟨t,ht⟩: ∃t,t=nN r s v:=⟨_,rfl⟩;have ht7:t<128:=by rw[ht];exact Nat.lt_of_lt_of_le (nN_lt hs) h128
 have Ht:=hh_ ht;obtain⟨y,hy⟩: ∃y,y=r v:=⟨_,rfl⟩;rw[<-hy] at q0 hrv;have h2v:=two_pow_le (n:=v) (by omega);obtain⟨z,hz⟩: ∃z,z=2^v:=⟨_,rfl⟩;have p1:IntKind.i64.wrap ((2:Int)^v)=(z:Int):=by rw[pow_shl v (by omega),hz];simp
 rw[<-hz] at h2v;have hor:y|||z<2^8:=Nat.or_lt_two_pow (by omega) (by omega);have E1:=i64_or_nat y z (by omega) (by omega);have E2:=i64_and_nat (y|||z) s (by omega) (by omega);rw[show (y|||z)&&&s=t by rw[ht,hy,hz];rfl] at E2;have i1:(v:Int)<m:=by omega
 have KL:Hid (∀z:World,Below W3.heap.size W3 z->Calls Tryz.prog 223 #[.int .i64 (t:Int)] z fun e w'=> ∃A c,e=.returned (.slice A (listN t).length c)/\ON W3.heap.size w' A c (listN t)/\Below z.heap.size z w'):=fun z hz=>
  (ListOf_v t ht7 z).mono fun _ _ ⟨A,c,h1,h2,h3⟩=>⟨A,c,h1,h2.mono hz.size,h3⟩
 have hL7:(listN t).length<=7:=listN_len t;have htm:t<2^m:=by rw[ht];exact nN_lt hs
 have HTm:Hid (∀j,j<(listN t).length->(listN t).getD j 0<m):=fun j hj=>listN_lt htm hj
 obtain⟨T,hT⟩: ∃T,T=listN t:=⟨_,rfl⟩;rw[<-hT] at KL hL7 HTm;have HT:Hid (T=listN (nN r s v)):=by rw[<-Ht.out];exact hT
 have HON0:=HON;have HRW:Hid (From W3 W3):=From.refl W3;clear ht hy hz hT h2v hor s1 e0 htm;clear e1;obtain⟨e0,e1⟩:=gx_ HG;go_wp2;rw[<-HW3.out];clear HW3;obtain⟨HSC,HZ0,HS1⟩:=hsc2 e1 q0;have KR1:Hid (∀z:World,Below W3.heap.size W3 z->_):=fun z hz=>KL.out _ hz
 go_region_held3 (fun z=>Below W3.heap.size W3 z/\z.cell? ⟨w.heap.size,1,none⟩=some (.slice (some ⟨b0,o0,none⟩) m c)/\z.cell? ⟨b0,o0+v,none⟩=some (.int .i64 (y:Int)))
  (first|exact HS1.out|assumption|exact HSC.out _ hz4|fail)
  (first|(go_at_call 223;((with_reducible refine(KR1.out _ HZ0.out).mono ?_);rintro e w4 ⟨AL,cL,rfl,hOL,hb4⟩;have hz4:=bl_trans HZ0.out hb4)))
 clear e0 e1;replace HB:=hh_ (HB.keep hz4);replace HG:=hh_ (HG.keep hz4);replace HON:=hh_ (HON.keep hz4);replace HRW:=hh_ (HRW.keep hz4);clear hb4 hz4 HSC HZ0 HS1 KR1;obtain⟨e0,e1⟩:=gx_ HG;have HOL:=hh_ hOL;have hz4:W3.heap.size<=w4.heap.size:=HRW.below.size;clear hOL HRW KL p1 E1 E2 q0 e1 hrv HON0;have HG4:=HG;have HB4:=HB;go_wp2;go_loopw [7,45] (fun out iv wr=> ∃(k g6 c6:Nat),k<=T.length/\out=.slice (some ⟨g6,0,none⟩) (nK r s T k).length c6/\iv=.int .i64 k/\(g6=w3.heap.size\/w4.heap.size<=g6)/\Hid (ON w3.heap.size wr (some ⟨g6,0,none⟩) c6 (nK r s T k))/\Hid (Fr w3.heap.size (w3.heap.size+1) w4 wr)) (fun _ iv _=>T.length-(intOf iv).toNat);case atStart=>exact⟨0,w3.heap.size,0,Nat.zero_le _,rfl,rfl,.inl rfl,HON,Fr.refl _ _ _⟩
 case round=>
  clear HON;obtain⟨k,g6,c6,hk,rfl,rfl,hg6,HO6,HF⟩:=hrel;have hzr:=HF.size;by_cases hkT:k<T.length
  ·have i1:(k:Int)<T.length:=by omega
   have HLr:Hid (LN wr AL cL T):=⟨((HOL.own.keep HF.out (.inr (by omega))).mono nr_ hzr).rd⟩;obtain⟨bl,ol,rfl⟩:=HLr.addr (by omega);have p0:=HLr.cell hkT;have hu:=HTm.out k hkT;obtain⟨u,hu'⟩: ∃u,u=T.getD k 0:=⟨_,rfl⟩;rw[<-hu'] at p0 hu;have e1:wr.cell? ⟨w.heap.size,1,none⟩=some (.slice (some ⟨b0,o0,none⟩) m c):=frC_ HF.out HG4.c1 HG4.lt (.inl (by have:=HB3.out;omega));have hb0:b0<w3.heap.size:=HB0.out;have q0:wr.cell? ⟨b0,o0+u,none⟩=some (.int .i64 (r u:Nat)):=frC_ HF.out (HG4.gv.row hu) HG4.gv.bl (.inl hb0);have hr:=HV.lt128 hu;obtain⟨y,hy⟩: ∃y,y=r u:=⟨_,rfl⟩;rw[<-hy] at q0 hr;have h2u:=two_pow_le (n:=u) (by omega);obtain⟨z,hz⟩: ∃z,z=2^u:=⟨_,rfl⟩;have p1:IntKind.i64.wrap ((2:Int)^u)=(z:Int):=by rw[pow_shl u (by omega),hz];simp
   rw[<-hz] at h2u;have hor:y|||z<2^8:=Nat.or_lt_two_pow (by omega) (by omega);have E1:=i64_or_nat y z (by omega) (by omega);have E2:=i64_and_nat (y|||z) s (by omega) (by omega);obtain⟨nu,hnu⟩: ∃nu,nu=nN r s u:=⟨_,rfl⟩;rw[show (y|||z)&&&s=nu by rw[hnu,hy,hz];rfl] at E2;have Hsu:Hid (nK r s T (k+1)=nK r s T k++ [nu]):=by show _=_;rw[nK_succ,<-hu',hnu]
   have i2:(u:Int)<m:=by omega
   have Hlen:Hid ((nK r s T k).length=k):=nK_len;have hlo:w3.heap.size<=wr.heap.size:=by omega
   have HP:Hid (Own ((wr.alloc (Obj.cells #[.int .i64 (nu:Int)] 3)).drew) w3.heap.size wr.heap.size 3 1 (some ⟨g6,0,none⟩) (nK r s T k).length c6 (ni (nK r s T k++ [nu]))):=(HO6.own.congr (fun j hj=>(ni_left hj).symm)).alloc _;clear hu' hy hz hnu h2u hor hr;go_wp2;go_region_law
    ((refine step_push _ (by rfl) _ _ _ (by rfl) 3 _ 1 8 Tryz.underlying24 info_int rfl (by omega) w3.heap.size wr.heap.size (some ⟨g6,0,none⟩) (nK r s T k).length c6 (ni (nK r s T k++ [nu])) (by rfl) HP.out (by simp;omega) wr.heap.size #[.int .i64 (nu:Int)] 3 (0,0) 1 (heap_alloc_new wr _) (by rfl) rfl ni_news (by simp[Value.oneCell']) (by rw[Hlen.out];omega) (by omega) ?_;intro g7 cap w6 hp))
   all_goals
    have H5:Hid (ON w3.heap.size w6 (some ⟨g7,0,none⟩) cap (nK r s T (k+1))):=⟨by rw[Hsu.out,List.length_append];exact hp.own⟩;have H6:Hid (Fr w3.heap.size (w3.heap.size+1) w4 w6):=by
     have ha:(wr.alloc (Obj.cells #[.int .i64 (nu:Int)] 3)).drew.heap.size=wr.heap.size+1:=by simp
     refine⟨hp.grown.os.trans HF.os,hp.grown.tape.trans HF.tape,hp.grown.output.trans HF.output,by have:=hp.grown.size;omega,fun i hi ho=> ?_⟩;refine(hp.grown.block i (by omega) (by simp[Value.ownBlock];omega)).trans ?_;exact(Below.heap_alloc wr _ i (by omega)).trans (HF.block i hi ho)
    have hg7:g7=w3.heap.size\/w4.heap.size<=g7:=by
     have ha:(wr.alloc (Obj.cells #[.int .i64 (nu:Int)] 3)).drew.heap.size=wr.heap.size+1:=by simp
     rcases hp.at_ with h1|h1
     ·simp[Value.ownBlock] at h1;omega
     ·omega
    have Hln:Hid ((nK r s T (k+1)).length=(nK r s T k).length+1):=by show _=_;rw[nK_len,nK_len]
    clear hp HP;go_wp2;go_roundw;case rel=>exact⟨k+1,g7,cap,by omega,by rw[Hln.out],by go_num,hg7,H5,H6⟩
    case measure=>simp[intOf]<;>omega
  ·obtain rfl:T.length=k:=by omega
   have HBz:Hid (Below w.heap.size w wr):=HB4.below.trans (HF.below (by have:=HB3.out;omega) HB4.below.size);have Hln:Hid ((nK r s T T.length).length=T.length):=nK_len;have hcap:=HO6.own.le;obtain⟨wf,hwf⟩: ∃wf,wf=wr:=⟨_,rfl⟩;have HC6:Hid (∀j,j<T.length->wf.cell? ⟨g6,j,none⟩=some (.int .i64 (nN r s (T.getD j 0):Nat))):=fun j hj=>by
    have:=HO6.ln.cell (j:=j) (by rw[Hln.out];exact hj);rw[nK_at hj,Nat.zero_add] at this;rw[hwf];exact this
   obtain⟨N,hN⟩: ∃N,N=(nK r s T T.length).length:=⟨_,rfl⟩;rw[<-hN] at Hln hcap ⊢;rw[<-hwf] at HBz ⊢;have HNN:=Hln;have hNT:N=T.length:=Hln.out;clear hN HO6 HF hwf hg6 hzr;go_wp2;go_loopw [65] (fun iv wz=> ∃i:Nat,i<=N/\iv=.int .i64 i/\Hid (Sm1 r s T i)/\wz=wf) (fun iv _=>N-(intOf iv).toNat);case atStart=>exact⟨0,Nat.zero_le _,rfl,Sm1.zero,rfl⟩
   case round=>
    obtain⟨i,hi,rfl,H1,hww⟩:=hrel;subst hww;by_cases hiN:i<N
    ·have i1:(i:Int)<N:=by omega
     have p0:=HC6 i (by omega);have ha7:nN r s (T.getD i 0)<128:=Nat.lt_of_lt_of_le (nN_lt hs) h128;obtain⟨a,ha⟩: ∃a,a=nN r s (T.getD i 0):=⟨_,rfl⟩;rw[<-ha] at p0 ha7;have Ha:=hh_ ha;have i2:(i:Int)<=c6:=by omega
     clear ha;go_wp2;go_loop [74] (fun iv=> ∃k:Nat,k<=i/\iv=.int .i64 k/\Hid (∀j,j<k->Cm (nN r s (T.getD i 0)) (nN r s (T.getD j 0)))) (fun iv=>i-(intOf iv).toNat);case atStart=>exact⟨0,Nat.zero_le _,rfl,fun j hj=>absurd hj (by omega)⟩
     case round=>
      obtain⟨k,hk,rfl,H2⟩:=hrel;by_cases hki:k<i
      ·have i3:(k:Int)<i:=by omega
       have p1:=HC6 k (by omega);have hb7:nN r s (T.getD k 0)<128:=Nat.lt_of_lt_of_le (nN_lt hs) h128;obtain⟨b,hb⟩: ∃b,b=nN r s (T.getD k 0):=⟨_,rfl⟩;rw[<-hb] at p1 hb7;have E1:=i64_andNot_nat a b (by omega) (by omega);have E2:=i64_andNot_nat b a (by omega) (by omega);have Hp:Hid ((a^^^(a&&&b)=0\/b^^^(b&&&a)=0)->Cm (nN r s (T.getD i 0)) (nN r s (T.getD k 0))):=fun h=>by rw[<-Ha.out,<-hb];exact cm_of h
       have Hq:Hid (a^^^(a&&&b)≠0->b^^^(b&&&a)≠0->simB r v s=false):=fun h1 h2=>sim_no HT.out (by omega) hki (by rw[<-Ha.out,<-hb];exact cm_not h1 h2)
       obtain⟨al,hal⟩: ∃al,al=a^^^(a&&&b):=⟨_,rfl⟩;obtain⟨be,hbe⟩: ∃be,be=b^^^(b&&&a):=⟨_,rfl⟩;rw[<-hal,<-hbe] at Hp Hq;rw[<-hal] at E1;rw[<-hbe] at E2;clear hal hbe hb;by_cases h1:al=0
       ·have H2':Hid (∀j,j<k+1->Cm (nN r s (T.getD i 0)) (nN r s (T.getD j 0))):=fun j hj=>by
         by_cases e:j<k
         ·exact H2.out j e
         ·obtain rfl:j=k:=by omega
          exact Hp.out (.inl h1)
        have d1:((al:Int) !=0)=false:=by simp;omega
        clear h1;go_wp2;go_round;case rel=>exact⟨k+1,by omega,by go_num,H2'⟩
        case measure=>simp[intOf]<;>omega
       ·have d1:((al:Int) !=0)=true:=by simp;omega
        by_cases h2:be=0
        ·have H2':Hid (∀j,j<k+1->Cm (nN r s (T.getD i 0)) (nN r s (T.getD j 0))):=fun j hj=>by
          by_cases e:j<k
          ·exact H2.out j e
          ·obtain rfl:j=k:=by omega
           exact Hp.out (.inr h2)
         have d2:((be:Int) !=0)=false:=by simp;omega
         clear h1 h2;go_wp2;go_round;case rel=>exact⟨k+1,by omega,by go_num,H2'⟩
         case measure=>simp[intOf]<;>omega
        ·have d2:((be:Int) !=0)=true:=by simp;omega
         have Hn:=hh_ (Hq.out h1 h2);clear h1 h2;go_wp2;go_ret;exact⟨ret_bool Hn.symm,HBz.out⟩
      ·have H1':Hid (Sm1 r s T (i+1)):=H1.step fun j hj=>H2.out j (by omega)
       have i3:(i:Int)<=k:=by omega
       go_wp2;go_roundw;case rel=>exact⟨i+1,by omega,by go_num,H1',by first|rfl|trivial⟩
       case measure=>simp[intOf]<;>omega
    ·have Hy:Hid (simB r v s=true):=sim_yes Hb.out (by rw[<-HT.out];exact fun i' hi'=>H1.out i' (by omega));have i1:(N:Int)<=i:=by omega
     go_wp2;go_ret;exact⟨ret_bool Hy.symm,HBz.out⟩
end Go.Proofs.YtfabbohijhjpcaaGreatDoor
