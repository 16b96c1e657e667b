/- Lemmas. -/
import Derived.Test.YtfabbohijhjpcaaGreatDoorRbPrfI
/-
-/
namespace Go.Proofs.YtfabbohijhjpcaaGreatDoor
open Go.RowKit
def mxK (r:Nat->Nat) (s:Nat):Nat->Bool
 |0=>cliq r s
 |k+1=>mxK r s k&&(s.testBit k|| !(r k&&&s==s))
def mxB (r:Nat->Nat) (m s:Nat):Bool:=mxK r s m
def mqK (r:Nat->Nat) (m k:Nat):List Nat:=(List.range k).filter fun s=> !(s==0)&&mxB r m s
def mqL (r:Nat->Nat) (m:Nat):List Nat:=mqK r m (2^m)
theorem mxK_no {r:Nat->Nat} {s j:Nat} (h:mxK r s j=false): ∀ {i},j<=i->mxK r s i=false:=by
 intro i hi;induction hi with
 |refl=>exact h
 |step _ ih=>rw[mxK,ih];rfl
theorem mqK_one (r:Nat->Nat) (m:Nat):mqK r m 1= []:=by unfold mqK;simp[List.range_succ]
theorem mqK_yes {r:Nat->Nat} {m k:Nat} (h0:1<=k) (h:mxB r m k=true):mqK r m (k+1)=mqK r m k++ [k]:=by
 unfold mqK;rw[List.range_succ,List.filter_append];simp[h,show k≠0 by omega]
theorem mqK_no {r:Nat->Nat} {m k:Nat} (h:mxB r m k=false):mqK r m (k+1)=mqK r m k:=by
 unfold mqK;rw[List.range_succ,List.filter_append];simp[h]
theorem mqK_len (r:Nat->Nat) (m k:Nat):(mqK r m k).length<=k:=by
 unfold mqK;exact Nat.le_trans (List.length_filter_le _ _) (by simp)
theorem mem_mqL {r:Nat->Nat} {m s:Nat}:s∈mqL r m↔s<2^m/\s≠0/\mxB r m s=true:=by
 unfold mqL mqK;simp
theorem mxK_yes {r:Nat->Nat} {s:Nat} (h:cliq r s=true): ∀k,(∀v,v<k->s.testBit v=true\/r v&&&s≠s)->mxK r s k=true:=by
 intro k;induction k with
 |zero=>exact fun _=>h
 |succ k ih=>
  intro hv;rw[mxK,ih fun v h=>hv v (by omega),Bool.true_and];rcases hv k (by omega) with h|h
  ·rw[h];rfl
  ·simp[h]
theorem cn_add_table: ∀s,s<128-> ∀v,v<7->s.testBit v=false->cn (s|||2^v)=cn s+1:=by decide+kernel
theorem mqL_ne {r:Nat->Nat} {m:Nat} (vg:VG m r):mqL r m≠ []:=by
 have h128:=two_pow_le vg.n7;have n1:=vg.n1;have hlt:=lq_lt r m;have h1:cliq r 1=true:=cliq_yes fun v hv hb=>by
  obtain rfl:v=0:=by
   rcases Nat.lt_or_ge 0 v with h|h
   ·have:=bit_lt (n:=1) (by omega:(1:Nat)<2^1) hb;omega
   ·omega
  have:=vg.irr 0 (by omega);have e:1&&&r 0=0:=by
   apply Nat.eq_of_testBit_eq;intro i;rw[Nat.testBit_and,Nat.zero_testBit];cases i with
   |zero=>rw[this];simp
   |succ i=>simp[Nat.testBit_succ]
  rw[e];rfl
 have hmost:=lgK_most (p:=cliq r) (2^m) 1 (by have:=Nat.pow_le_pow_right (n:=2) (by omega) n1;omega) h1;have hc1:cn 1=1:=by decide
 have hne:lqN r m≠0:=fun e=>by
  have:cn (lqN r m)=0:=by rw[e];decide
  unfold lqN at this;omega
 have hcl:cliq r (lqN r m)=true:=by
  rcases lgK_holds (p:=cliq r) (2^m) with h|h
  ·exact absurd h hne
  ·exact h
 have hmem:lqN r m∈mqL r m:=by
  refine mem_mqL.2 ⟨hlt,hne,mxK_yes hcl _ fun v hv=> ?_⟩;cases hb:(lqN r m).testBit v
  ·refine .inr fun e=> ?_
   have h2:cliq r (lqN r m|||2^v)=true:=cliq_yes fun u hu hbu=>by
    rw[Nat.testBit_or,Nat.testBit_two_pow] at hbu;have hum:u<m:=by
     cases h3:(lqN r m).testBit u
     ·rw[h3] at hbu;simp at hbu;omega
     ·exact bit_lt hlt h3
    apply Nat.eq_of_testBit_eq;intro i;rw[Nat.testBit_xor,Nat.testBit_and,Nat.testBit_or,Nat.testBit_two_pow,Nat.testBit_two_pow];have hL: ∀j,(lqN r m).testBit j=true->(r v).testBit j=true:=fun j hj=>by
     have:=congrArg (Nat.testBit · j) e;simp only[Nat.testBit_and,hj,Bool.and_true] at this;exact this
    have hC: ∀a,(lqN r m).testBit a=true-> ∀j,(lqN r m).testBit j=true->j≠a->(r a).testBit j=true:=fun a ha j hj hja=>by
     have ha7:a<7:=by have:=bit_lt hlt ha;have:=vg.n7;omega
     have:=(List.all_eq_true.1 (show ((listN (lqN r m)).all fun v=>lqN r m^^^(lqN r m&&&r v)==2^v)=true from hcl)) a (mem_listN.2 ⟨ha7,ha⟩);have:=congrArg (Nat.testBit · j) (beq_iff_eq.1 this);simp only[Nat.testBit_xor,Nat.testBit_and,Nat.testBit_two_pow,hj,Bool.true_and] at this;rw[decide_eq_false (fun h=>hja h.symm)] at this;simpa using this
    by_cases hiu:u=i
    ·subst hiu;rw[vg.irr u hum,hbu,decide_eq_true rfl];rfl
    ·rw[decide_eq_false hiu];cases h3:(lqN r m).testBit i
     ·by_cases hvi:v=i
      ·subst hvi;have hu':(lqN r m).testBit u=true:=by
        rw[decide_eq_false (fun h=>hiu h.symm)] at hbu;simpa using hbu
       have:=hL u hu';rw[vg.sym v u hv hum] at this;rw[this];simp
      ·rw[decide_eq_false hvi];rfl
     ·have:(r u).testBit i=true:=by
       cases h4:(lqN r m).testBit u
       ·rw[h4] at hbu;have hvu:v=u:=by simpa using hbu
        rw[<-hvu];exact hL i h3
       ·exact hC u h4 i h3 (fun h=>hiu h.symm)
      rw[this];simp
   have hlt2:lqN r m|||2^v<2^m:=Nat.or_lt_two_pow hlt (Nat.pow_lt_pow_right (by omega) hv);have h3:=lgK_most (p:=cliq r) (2^m) _ hlt2 h2;have h4:=cn_add_table (lqN r m) (by omega) v (by have:=vg.n7;omega) hb;unfold lqN at h4 h3;omega
  ·exact .inl rfl
 intro e;rw[e] at hmem;cases hmem
def seK (l:List Nat):Nat->Nat
 |0=>0
 |i+1=>seK l i|||l.getD i 0
def laK (l:List Nat):Nat->Nat
 |0=>0
 |i+1=>l.getD i 0
def fcB (l:List Nat) (i:Nat):Bool:=(l.getD i 0&&&seK l i)^^^((l.getD i 0&&&seK l i)&&&laK l i)==0
def foB (l:List Nat):Bool:=(List.range l.length).all (fcB l)
theorem foB_no {l:List Nat} {i:Nat} (hi:i<l.length) (h:fcB l i=false):foB l=false:=by
 unfold foB;rw[List.all_eq_false];exact⟨i,List.mem_range.2 hi,by rw[h];simp⟩
theorem foB_yes {l:List Nat} (h: ∀i,i<l.length->fcB l i=true):foB l=true:=by
 unfold foB;rw[List.all_eq_true];exact fun i hi=>h i (List.mem_range.1 hi)
theorem foB_iff {l:List Nat}:foB l=true↔ ∀i,i<l.length->fcB l i=true:=by
 unfold foB;rw[List.all_eq_true];simp
theorem seK_lt {l:List Nat} (h: ∀v∈l,v<128): ∀i,i<=l.length->seK l i<128:=by
 intro i;induction i with
 |zero=>exact fun _=>(by decide:(0:Nat)<128)
 |succ i ih=>
  intro hi;have e:l.getD i 0=l[i]:=by simp[List.getD,show i<l.length by omega]
  exact Nat.or_lt_two_pow (n:=7) (ih (by omega)) (by rw[e];exact h _ (List.getElem_mem _))
def bgK (l:List Nat) (v:Nat):Nat->Nat
 |0=>0
 |i+1=>bgK l v i+(if ((l.getD i 0).testBit v&& !(laK l i).testBit v)=true then 1 else 0)
def coB (l:List Nat):Bool:=(List.range 7).all fun v=>decide (bgK l v l.length<=1)
theorem bgK_yes {l:List Nat} {v i:Nat} (h1:(l.getD i 0).testBit v=true) (h2:(laK l i).testBit v=false):bgK l v (i+1)=bgK l v i+1:=by
 rw[bgK,h1,h2];rfl
theorem bgK_no {l:List Nat} {v i:Nat} (h:(l.getD i 0).testBit v=false\/(laK l i).testBit v=true):bgK l v (i+1)=bgK l v i:=by
 rw[bgK,if_neg,Nat.add_zero];rw[Bool.and_eq_true];rintro⟨h1,h2⟩;rcases h with h|h
 ·rw[h] at h1;cases h1
 ·rw[h] at h2;cases h2
theorem bgK_le (l:List Nat) (v:Nat): ∀i,bgK l v i<=i:=by
 intro i;induction i with
 |zero=>exact nr_
 |succ i ih=>rw[bgK];split<;>omega
theorem coB_no {l:List Nat} {v:Nat} (hv:v<7) (h:1<bgK l v l.length):coB l=false:=by
 unfold coB;rw[List.all_eq_false];exact⟨v,List.mem_range.2 hv,by rw[decide_eq_false (by omega)];simp⟩
theorem coB_yes {l:List Nat} (h: ∀v,v<7->bgK l v l.length<=1):coB l=true:=by
 unfold coB;rw[List.all_eq_true];exact fun v hv=>decide_eq_true (h v (List.mem_range.1 hv))
theorem fcB_bit {l:List Nat} {i:Nat}:fcB l i=true↔ ∀v,(l.getD i 0).testBit v=true->(seK l i).testBit v=true->(laK l i).testBit v=true:=by
 unfold fcB;rw[beq_iff_eq,andNot_zero];constructor
 ·intro h v h1 h2;have:=congrArg (Nat.testBit · v) h;simp only[Nat.testBit_and,h1,h2,Bool.true_and] at this;exact this
 ·intro h;apply Nat.eq_of_testBit_eq;intro v;simp only[Nat.testBit_and];cases h1:(l.getD i 0).testBit v
  ·rfl
  ·cases h2:(seK l i).testBit v
   ·rfl
   ·rw[h v h1 h2];rfl
theorem seK_bg {l:List Nat} {v:Nat}: ∀i,(seK l i).testBit v=false↔bgK l v i=0:=by
 intro i;induction i with
 |zero=>simp[seK,bgK]
 |succ i ih=>
  rw[seK,bgK,Nat.testBit_or];cases h1:(l.getD i 0).testBit v
  ·simp[ih]
  ·cases h2:(laK l i).testBit v
   ·simp
   ·have h3:(seK l i).testBit v=true:=by
     cases i with
     |zero=>simp[laK] at h2
     |succ i=>rw[seK,Nat.testBit_or];rw[laK] at h2;rw[h2];simp
    rw[h3] at ih;simp at ih;simp[h3];omega
theorem bg_fc {l:List Nat} {v:Nat}: ∀n,bgK l v n<=1↔ ∀i,i<n->(l.getD i 0).testBit v=true->(seK l i).testBit v=true->(laK l i).testBit v=true:=by
 intro n;induction n with
 |zero=>simp[bgK]
 |succ n ih=>
  have hs:=seK_bg (l:=l) (v:=v) n;constructor
  ·intro h i hi;have hn:bgK l v n<=1:=by rw[bgK] at h;omega
   by_cases hin:i<n
   ·exact ih.1 hn i hin
   ·obtain rfl:i=n:=by omega
    intro h1 h2;cases h3:(laK l i).testBit v
    ·rw[bgK_yes h1 h3] at h;have:=hs.2 (by omega);rw[h2] at this;cases this
    ·rfl
  ·intro h;have hn:=ih.2 fun i hi=>h i (by omega)
   cases h1:(l.getD n 0).testBit v
   ·rw[bgK_no (.inl h1)];exact hn
   ·cases h2:(laK l n).testBit v
    ·rw[bgK_yes h1 h2];have:(seK l n).testBit v=false:=by
      cases h3:(seK l n).testBit v
      ·rfl
      ·have:=h n (by omega) h1 h3;rw[h2] at this;cases this
     have:=hs.1 this;omega
    ·rw[bgK_no (.inr h2)];exact hn
theorem co_fo {l:List Nat} (h: ∀s∈l,s<128):coB l=foB l:=by
 rw[Bool.eq_iff_iff];constructor
 ·intro hc;refine foB_yes fun i hi=>fcB_bit.2 fun v h1 h2=> ?_
  have e:l.getD i 0=l[i]:=by simp[List.getD,hi]
  have hv:v<7:=bit_lt (n:=7) (by rw[e];exact h _ (List.getElem_mem _)) h1;unfold coB at hc;rw[List.all_eq_true] at hc;have:=of_decide_eq_true (hc v (List.mem_range.2 hv));exact(bg_fc _).1 this i hi h1 h2
 ·intro hf;exact coB_yes fun v _=>(bg_fc _).2 fun i hi=>fcB_bit.1 (foB_iff.1 hf i hi) v
def okQ (l:List Nat) (s:Nat):Bool:= !decide (s∈l)&&foB (l++ [s])
def cqS (Q:List Nat):Nat->List Nat->Option (List Nat)
 |0,l=>some l
 |k+1,l=>(List.range Q.length).findSome? fun i=>if okQ l (Q.getD i 0)=true then cqS Q k (l++ [Q.getD i 0]) else none
def cqA (Q:List Nat) (k:Nat) (l:List Nat) (i:Nat):Option (List Nat):=if okQ l (Q.getD i 0)=true then cqS Q k (l++ [Q.getD i 0]) else none
section
variable {Q l:List Nat} {k i:Nat}
theorem okQ_in {s:Nat} (h:s∈l):okQ l s=false:=by unfold okQ;rw[decide_eq_true h];rfl
theorem okQ_out {s:Nat} (h:s∉l):okQ l s=foB (l++ [s]):=by unfold okQ;rw[decide_eq_false h];rfl
theorem cqA_no (h:okQ l (Q.getD i 0)=false):cqA Q k l i=none:=by unfold cqA;rw[h];rfl
theorem cqA_yes (h:okQ l (Q.getD i 0)=true):cqA Q k l i=cqS Q k (l++ [Q.getD i 0]):=by unfold cqA;rw[h];rfl
theorem cqS_some {o:List Nat} (hi:i<Q.length) (h:cqA Q k l i=some o) (hmin: ∀u,u<i->cqA Q k l u=none):cqS Q (k+1) l=some o:=range_some hi h hmin
theorem cqS_none (h: ∀u,u<Q.length->cqA Q k l u=none):cqS Q (k+1) l=none:=range_none h
end
set_option maxHeartbeats 3200000
set_option maxRecDepth 100000 in
theorem MaximalCliques_v {A:Option Addr} {m c:Nat} {r:Nat->Nat} {w:World} (h:GV w A m c r):
 Calls Tryz.prog 306 #[.agg #[.int .i64 m,.slice A m c]] w fun e w'=> ∃A' c',e=.returned (.slice A' (mqL r m).length c')/\ON w.heap.size w' A' c' (mqL r m)/\Below w.heap.size w w':=by
 have hn7:=h.vg.n7;have h128:=two_pow_le hn7;have hpos:=Nat.two_pow_pos m;have HV:=hh_ h.vg;have Hfin:Hid (mqK r m (2^m)=mqL r m):=rfl;obtain⟨b0,o0,rfl⟩:=h.addr;obtain⟨W0,hW0⟩: ∃W0,W0=(w.alloc (Obj.cells #[.int .i64 m,.slice (some ⟨b0,o0,none⟩) m c] 26)):=⟨_,rfl⟩;have HB0:Hid (From w W0):=by rw[hW0];exact From.alloc _ _
 have HG0:Hid (GBox W0 w.heap.size (some ⟨b0,o0,none⟩) m c r):=by rw[hW0];exact h.box
 obtain⟨W,hW⟩: ∃W,W=W0.alloc (Obj.cells #[] 3):=⟨_,rfl⟩;have HR:Hid (From W0 W):=by rw[hW];exact From.alloc _ _
 have HO:Hid (ON W0.heap.size W (some ⟨W0.heap.size,0,none⟩) 0 []):=by rw[hW];exact ON.nil W0
 have HG:=hh_ (HG0.keep HR.below);have HZ0:Hid (w.heap.size+1=W0.heap.size):=by rw[hW0];simp[Hid]
 have HW:=hh_ hW;have HW0:=hh_ hW0;clear hW hW0 h;go_enter Tryz.func306,Tryz.ntmps306;go_wp2_with fail
 rw[<-HW0.out,<-HW.out];clear HW HW0;have e0:=HG.c0;have e1:=HG.c1;refine(IsGraph_v HG.gv).mono ?_;rintro e w1 ⟨rfl,hb1⟩;clear e0 e1;replace HR:=hh_ (HR.keep hb1);replace HO:=hh_ (HO.keep hb1);replace HG:=hh_ (HG.keep hb1);clear hb1;have e0:=HG.c0;have e1:=HG.c1;have HO1:Hid (ON W0.heap.size w1 (some ⟨W0.heap.size,0,none⟩) 0 (mqK r m 1)):=by rw[mqK_one];exact HO.out
 have Hl1:Hid ((mqK r m 1).length=0):=by show _=_;rw[mqK_one];rfl
 have HRa:=HR;clear e0 e1 HO HR;go_wp2;go_loopw [3,4] (fun l i wr=> ∃(k:Nat) (A':Option Addr) (c':Nat),1<=k/\k<=2^m/\i=.int .i64 k/\l=.slice A' (mqK r m k).length c'/\Hid (ON W0.heap.size wr A' c' (mqK r m k))/\Hid (From W0 wr)) (fun _ i _=>2^m-(intOf i).toNat);case atStart=>exact⟨1,_,0,nr_,hpos,rfl,by rw[Hl1.out,HZ0.out],HO1,HRa⟩
 case round=>
  clear HO1 Hl1 HRa;obtain⟨k,A',c',hk1,hk,rfl,rfl,HO,HR⟩:=hrel;have HG:=hh_ (HG0.keep HR.below);have hml:=mqK_len r m k;have e0:=HG.c0;have e1:=HG.c1;go_wp2_with fail
  refine(all_v HG.gv).mono ?_;rintro e w1 ⟨rfl,hb1⟩;clear e0 e1;replace HR:=hh_ (HR.keep hb1);replace HO:=hh_ (HO.keep hb1);replace HG:=hh_ (HG.keep hb1);clear hb1;have e0:=HG.c0;have e1:=HG.c1;by_cases hlt:k<2^m
  ·have i1:(k:Int)<=((2^m-1:Nat):Int):=by omega
   have Hfx:Hid (mxK r k m=mxB r m k):=rfl;go_wp2_with fail
   refine(isClique_v HG.gv hlt).mono ?_;rintro e w2 ⟨rfl,hb2⟩;clear e0 e1;replace HR:=hh_ (HR.keep hb2);replace HO:=hh_ (HO.keep hb2);replace HG:=hh_ (HG.keep hb2);clear hb2;have e0:=HG.c0;have e1:=HG.c1;have Hz:Hid (cliq r k=mxK r k 0):=rfl;rw[Hz.out];go_wp2;go_loopw [5,25] (fun b i wz=> ∃v:Nat,v<=m/\i=.int .i64 v/\b=.bool (mxK r k v)/\wz=w2) (fun _ i _=>m-(intOf i).toNat);case atStart=>exact⟨0,Nat.zero_le _,rfl,rfl,rfl⟩
   case round=>
    obtain⟨v,hv,rfl,rfl,rfl⟩:=hrel;by_cases hvm:v<m
    ·have i2:(v:Int)<m:=by omega
     have q0:=HG.gv.row hvm;have hr:=HV.lt128 hvm;obtain⟨x,hx⟩: ∃x,x=r v:=⟨_,rfl⟩;have Hx:=hh_ hx;rw[<-hx] at q0 hr;have Hst:Hid (mxK r k (v+1)=(mxK r k v&&(k.testBit v|| !(x&&&k==k)))):=by rw[hx];exact rfl
     clear hx;cases hf:mxK r k v
     ·have Hs:Hid (mxK r k (v+1)=false):=by show _=_;rw[Hst.out,hf];rfl
      clear hf;go_wp2;go_roundw;case rel=>exact⟨v+1,by omega,by go_num,by rw[Hs.out],by first|rfl|trivial⟩
      case measure=>simp[intOf]<;>omega
     ·cases hb:k.testBit v
      ·have KH:=hh_ (has_q (s:=k) (v:=v) (by omega) (by omega) hb wr);have E2:=i64_andNot_nat k x (by omega) (by omega);by_cases hx:x&&&k=k
       ·have hz:k^^^(k&&&x)=0:=(andNot_zero k x).2 (by rw[Nat.and_comm];exact hx);rw[hz] at E2;have Hs:Hid (mxK r k (v+1)=false):=by show _=_;rw[Hst.out,hf,hb,hx];simp
        clear hf hb hx hz;go_wp2_with fail
        refine KH.mono ?_;rintro e w' ⟨rfl,rfl⟩;go_wp2;go_roundw;case rel=>exact⟨v+1,by omega,by go_num,by rw[Hs.out],by first|rfl|trivial⟩
        case measure=>simp[intOf]<;>omega
       ·have hz:k^^^(k&&&x)≠0:=fun h=>hx (by rw[Nat.and_comm];exact(andNot_zero k x).1 h)
        have Hs:Hid (mxK r k (v+1)=true):=by show _=_;rw[Hst.out,hf,hb];simp[hx]
        obtain⟨y,hy⟩: ∃y,y=k^^^(k&&&x):=⟨_,rfl⟩;rw[<-hy] at E2 hz;have hyn:((y:Int) !=0)=true:=by simp;omega
        clear hf hb hx hy;go_wp2_with fail
        refine KH.mono ?_;rintro e w' ⟨rfl,rfl⟩;go_wp2;go_roundw;case rel=>exact⟨v+1,by omega,by go_num,by rw[Hs.out],by first|rfl|trivial⟩
        case measure=>simp[intOf]<;>omega
      ·have KH:=hh_ (has_q (s:=k) (v:=v) (by omega) (by omega) hb wr);have Hs:Hid (mxK r k (v+1)=true):=by show _=_;rw[Hst.out,hf,hb];rfl
       clear hf hb;go_wp2_with fail
       refine KH.mono ?_;rintro e w' ⟨rfl,rfl⟩;go_wp2;go_roundw;case rel=>exact⟨v+1,by omega,by go_num,by rw[Hs.out],by first|rfl|trivial⟩
       case measure=>simp[intOf]<;>omega
    ·obtain rfl:m=v:=by omega
     rw[Hfx.out];clear e0 e1;cases hmx:mxB r m k
     ·have Hn:Hid (mqK r m (k+1)=mqK r m k):=mqK_no hmx;clear hmx;go_wp2;go_roundw;case rel=>exact⟨k+1,_,_,by omega,by omega,by go_num,by rw[Hn.out],by rw[Hn.out];exact HO,HR⟩
      case measure=>simp[intOf];omega
     ·have Hn:Hid (mqK r m (k+1)=mqK r m k++ [k]):=mqK_yes hk1 hmx;clear hmx;obtain⟨T,hT⟩: ∃T,T=mqK r m k:=⟨_,rfl⟩;rw[<-hT] at Hn HO hml ⊢;clear hT;have hzr:=HR.below.size;go_wp2_with (first|(at_builtin;(refine wpList_pushN wr rfl _ _ rfl W0.heap.size wr.heap.size A' c' T HO.own hzr k rfl 1 wr.heap.size rfl rfl (by omega) ?_;intro g3 c3 w3 hO3 hb3)))
      have HOn:Hid (ON W0.heap.size w3 (some ⟨g3,0,none⟩) c3 (T++ [k])):=⟨by rw[List.length_append];exact hO3⟩;have HRn:Hid (From W0 w3):=⟨HR.below.trans hb3⟩;clear hO3 hb3;go_roundw;case rel=>exact⟨k+1,_,_,by omega,by omega,by go_num,by rw[Hn.out,List.length_append];rfl,by rw[Hn.out];exact HOn,HRn⟩
      case measure=>simp[intOf];omega
  ·have hkm:k=2^m:=by omega
   have i1:((2^m-1:Nat):Int)<(k:Int):=by omega
   have Hk:Hid (mqK r m k=mqL r m):=by rw[hkm];exact Hfin.out
   have HBw:Hid (From w w1):=HB0.up HR.out;have hz0:=HB0.below.size;rw[Hk.out] at HO ⊢;clear hkm hml;go_wp2;go_ret;exact⟨_,_,rfl,HO.mono hz0,HBw.below⟩
set_option maxRecDepth 100000 in
theorem MaximalCliques_no {sz:Int} {A:Option Addr} {m c:Nat} {x:Nat->Int} {w:World} (h:GA w A m c x) (hm:m<=1048576) (hok:okB sz m x=false):
 Calls Tryz.prog 306 #[.agg #[.int .i64 sz,.slice A m c]] w fun e w'=> ∃A' c',e=.returned (.slice A' 0 c')/\Below w.heap.size w w':=by
 obtain⟨W,hW⟩: ∃W,W=((w.alloc (Obj.cells #[.int .i64 sz,.slice A m c] 26)).alloc (Obj.cells #[] 3)):=⟨_,rfl⟩;have HB:Hid (From w W):=by rw[hW];exact(From.alloc _ _).alloc_ _
 have HK:=hh_ (h.keep HB.below);have HC:Hid (GC W w.heap.size sz A m c):=by rw[hW];exact(GC.new _ _ _ _ _).keep (br_.alloc nr_ _)
 have HW:=hh_ hW;have Ho:=hh_ hok;clear hW h hok;go_enter Tryz.func306,Tryz.ntmps306;obtain⟨e0,e1⟩:=gc_ HC;go_wp2_with fail
 rw[<-HW.out];clear HW;refine(IsGraph_any sz A m c x W W.heap.size HK.rd nr_ hm).mono ?_;rintro e w1 ⟨rfl,hb1⟩;rw[Ho.out];clear e0 e1;obtain⟨HB,HK,HC,e0,e1⟩:=kC_ HB HK HC hb1;clear hb1;go_wp2;go_ret;exact⟨_,_,rfl,HB.below⟩
set_option maxRecDepth 100000 in
theorem follow_v {Al:Option Addr} {cl:Nat} {l:List Nat} {w:World} (hl:LN w Al cl l) (hlt: ∀s∈l,s<128) (hlen:l.length<=1048576):
 Calls Tryz.prog 308 #[.slice Al l.length cl] w fun e w'=>e=.returned (.bool (foB l))/\Below w.heap.size w w':=by
 have HL:=hh_ hl;have Hlt:=hh_ hlt;have Hse:=hh_ (seK_lt hlt);have HF:Hid (From w w):=From.refl w;clear hl hlt;go_enter Tryz.func308,Tryz.ntmps308;go_wp2;go_loopw [3,4,9] (fun a b i wr=> ∃k:Nat,k<=l.length/\i=.int .i64 k/\a=.int .i64 (seK l k:Nat)/\b=.int .i64 (laK l k:Nat)/\Hid (∀j,j<k->fcB l j=true)/\wr=w) (fun _ _ i _=>l.length-(intOf i).toNat);case atStart=>exact⟨0,Nat.zero_le _,rfl,rfl,rfl,(fun j hj=>absurd hj (by omega)),rfl⟩
 case round=>
  obtain⟨k,hk,rfl,rfl,rfl,hall,rfl⟩:=hrel;by_cases hkl:k<l.length
  ·have i1:(k:Int)<l.length:=by omega
   obtain⟨b0,o0,rfl⟩:=HL.addr (by omega);have p0:=HL.at hkl;have e:l[k]=l.getD k 0:=by simp[List.getD,hkl]
   rw[e] at p0;have hx:l.getD k 0<128:=by rw[<-e];exact Hlt.out _ (List.getElem_mem hkl)
   have hs:=Hse.out k (by omega);have hla:laK l k<128:=by
    cases k with
    |zero=>exact(by decide:(0:Nat)<128)
    |succ j=>
     show l.getD j 0<128;have:l.getD j 0=l[j]:=by simp[List.getD,show j<l.length by omega]
     rw[this];exact Hlt.out _ (List.getElem_mem _)
   have Hs1:Hid (seK l (k+1)=seK l k|||l.getD k 0):=rfl;have Hl1:Hid (laK l (k+1)=l.getD k 0):=rfl;have Hfc:Hid (fcB l k=((l.getD k 0&&&seK l k)^^^((l.getD k 0&&&seK l k)&&&laK l k)==0)):=rfl;obtain⟨x,hx'⟩: ∃x,x=l.getD k 0:=⟨_,rfl⟩;obtain⟨y,hy'⟩: ∃y,y=seK l k:=⟨_,rfl⟩;obtain⟨z,hz'⟩: ∃z,z=laK l k:=⟨_,rfl⟩;rw[<-hx'] at p0 hx Hs1 Hl1 Hfc;rw[<-hy'] at hs Hs1 Hfc ⊢;rw[<-hz'] at hla Hfc ⊢;have hand:x&&&y<128:=Nat.lt_of_le_of_lt Nat.and_le_left hx;have E1:=i64_and_nat x y (by omega) (by omega);have E2:=i64_andNot_nat (x&&&y) z (by omega) (by omega);have E3:=i64_or_nat y x (by omega) (by omega);obtain⟨t,ht⟩: ∃t,t=(x&&&y)^^^((x&&&y)&&&z):=⟨_,rfl⟩;obtain⟨u,hu⟩: ∃u,u=x&&&y:=⟨_,rfl⟩;obtain⟨q,hq⟩: ∃q,q=y|||x:=⟨_,rfl⟩
   rw[<-ht] at E2 Hfc;rw[<-hu] at E1 E2;rw[<-hq] at E3 Hs1;clear hx' hy' hz' ht hu hq e hand;by_cases ht0:t=0
   ·have hn0:((t:Int) !=0)=false:=by simp;omega
    have Hy:Hid (∀j,j<k+1->fcB l j=true):=fun j hj=>by
     by_cases hjk:j<k
     ·exact hall.out j hjk
     ·obtain rfl:j=k:=by omega
      rw[Hfc.out,ht0];rfl
    clear ht0;go_wp2;go_roundw;case rel=>exact⟨k+1,by omega,by go_num,by rw[Hs1.out],by rw[Hl1.out],Hy,by first|rfl|trivial⟩
    case measure=>simp[intOf]<;>omega
   ·have hn0:((t:Int) !=0)=true:=by simp;omega
    have Hn:Hid (foB l=false):=foB_no hkl (by rw[Hfc.out];simpa using ht0);clear ht0;go_wp2;go_ret;exact⟨ret_bool Hn.symm,HF.below⟩
  ·have Hy:Hid (foB l=true):=foB_yes fun i hi=>hall.out i (by omega)
   have i1:(l.length:Int)<=(k:Int):=by omega
   go_wp2;go_ret;exact⟨ret_bool Hy.symm,HF.below⟩
end Go.Proofs.YtfabbohijhjpcaaGreatDoor
