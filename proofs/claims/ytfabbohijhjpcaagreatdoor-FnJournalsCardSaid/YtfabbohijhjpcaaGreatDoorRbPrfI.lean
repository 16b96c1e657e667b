/- Lemmas. -/
import Derived.Test.YtfabbohijhjpcaaGreatDoorRbGivP
/-
-/
namespace Go.Proofs.YtfabbohijhjpcaaGreatDoor
open Go.RowKit
def lsN (s i:Nat):Nat:=(listN s).getD i 0
def inR (r:Nat->Nat) (s i:Nat):Nat:=bmK (fun k=>(r (lsN s i)).testBit (lsN s k)) (cn s)
theorem lsN_at {s i:Nat} (hi:i<cn s):(listN s)[i]'hi=lsN s i:=by unfold lsN;rw[List.getD_eq_getElem?_getD,List.getElem?_eq_getElem (show i<(listN s).length from hi)];rfl
theorem lsN_bit {s m i:Nat} (hs:s<2^m) (hi:i<cn s):lsN s i<m/\s.testBit (lsN s i)=true:=by
 have h:=listN_at (s:=s) (j:=i) hi;rw[lsN_at hi] at h;exact⟨bit_lt hs h.2,h.2⟩
theorem cn_one {s:Nat} (hs:s<128) (h:s≠0):1<=cn s:=by
 obtain⟨v,l,e,_⟩:=list_ne hs h;unfold cn;rw[e];simp
theorem inR_vg {r:Nat->Nat} {m s:Nat} (vg:VG m r) (hs:s<2^m) (h0:s≠0):VG (cn s) (inR r s):=by
 have h128:=two_pow_le vg.n7;refine⟨cn_one (by omega) h0,cn_le s,fun v _=>bmK_lt _,fun v hv=> ?_,fun v w hv hw=> ?_⟩
 ·unfold inR;rw[bmK_bit,vg.irr _ (lsN_bit hs hv).1];simp
 ·unfold inR;rw[bmK_bit,bmK_bit,decide_eq_true hv,decide_eq_true hw,vg.sym _ _ (lsN_bit hs hv).1 (lsN_bit hs hw).1]
def iK (r:Nat->Nat) (s i k j:Nat):Nat:=if j<i then inR r s j else if j=i then bmK (fun q=>(r (lsN s i)).testBit (lsN s q)) k else 0
theorem iK_zero (r:Nat->Nat) (s j:Nat):iK r s 0 0 j=0:=by
 unfold iK;rw[if_neg (by omega)];split<;>rfl
theorem iK_next (r:Nat->Nat) (s i j:Nat):iK r s i (cn s) j=iK r s (i+1) 0 j:=by
 unfold iK;by_cases h1:j<i
 ·rw[if_pos h1,if_pos (by omega)]
 ·by_cases h2:j=i
  ·subst h2;rw[if_neg (by omega),if_pos rfl,if_pos (by omega)];rfl
  ·rw[if_neg h1,if_neg h2,if_neg (by omega)];split<;>rfl
theorem iK_end {r:Nat->Nat} {s j:Nat} (h:j<cn s):iK r s (cn s) 0 j=inR r s j:=by unfold iK;rw[if_pos h]
theorem iK_no {r:Nat->Nat} {s i k:Nat} (h:(r (lsN s i)).testBit (lsN s k)=false) (j:Nat):iK r s i (k+1) j=iK r s i k j:=by
 have e:bmK (fun q=>(r (lsN s i)).testBit (lsN s q)) (k+1)=bmK (fun q=>(r (lsN s i)).testBit (lsN s q)) k:=by rw[bmK,if_neg (by rw[h];simp)]
 unfold iK;rw[e]
theorem iK_yes {r:Nat->Nat} {s i k:Nat} (h:(r (lsN s i)).testBit (lsN s k)=true) (j:Nat):iK r s i (k+1) j=if j=i then iK r s i k i|||2^k else iK r s i k j:=by
 have e:bmK (fun q=>(r (lsN s i)).testBit (lsN s q)) (k+1)=bmK (fun q=>(r (lsN s i)).testBit (lsN s q)) k|||2^k:=by rw[bmK,if_pos h]
 unfold iK;rw[e];by_cases h2:j=i
 ·subst h2;simp
 ·rw[if_neg h2,if_neg h2,if_neg h2]
theorem iK_at {r:Nat->Nat} {s i k:Nat}:iK r s i k i=bmK (fun q=>(r (lsN s i)).testBit (lsN s q)) k:=by
 unfold iK;rw[if_neg (by omega),if_pos rfl]
def rwL (r:Nat->Nat) (s i:Nat):List Nat:=(List.range i).map (inR r s)
theorem rwL_len (r:Nat->Nat) (s i:Nat):(rwL r s i).length=i:=by unfold rwL;simp
theorem rwL_snoc (r:Nat->Nat) (s i:Nat):rwL r s i++ [inR r s i]=rwL r s (i+1):=by unfold rwL;rw[List.range_succ,List.map_append];rfl
theorem rwL_at {r:Nat->Nat} {s i j:Nat} (h:j<i):(rwL r s i).getD j 0=inR r s j:=by unfold rwL;simp[List.getD,h]
def bmR (r:Nat->Nat) (s i k:Nat):Nat:=bmK (fun q=>(r (lsN s i)).testBit (lsN s q)) k
theorem bmR_zero (r:Nat->Nat) (s i:Nat):bmR r s i 0=0:=rfl
theorem bmR_all (r:Nat->Nat) (s i:Nat):bmR r s i (cn s)=inR r s i:=rfl
theorem bmR_lt (r:Nat->Nat) (s i k:Nat):bmR r s i k<2^k:=bmK_lt k
theorem bmR_no {r:Nat->Nat} {s i k:Nat} (h:(r (lsN s i)).testBit (lsN s k)=false):bmR r s i (k+1)=bmR r s i k:=by
 unfold bmR;rw[bmK,if_neg (by rw[h];simp)]
theorem bmR_yes {r:Nat->Nat} {s i k:Nat} (h:(r (lsN s i)).testBit (lsN s k)=true):bmR r s i (k+1)=bmR r s i k+2^k:=by
 have:(bmR r s i k).testBit k=false:=by unfold bmR;rw[bmK_bit];simp
 rw[show bmR r s i (k+1)=bmR r s i k|||2^k by unfold bmR;rw[bmK,if_pos h],<-or_of_add this]
def pfB (r:Nat->Nat) (s:Nat):Bool:= !(s==0)&&decide (cn (lqN (inR r s) (cn s))<chN (inR r s) (cn s))
theorem pfB_zero (r:Nat->Nat):pfB r 0=false:=rfl
theorem pfB_not {r:Nat->Nat} {s:Nat} (h:s≠0):pfB r s=decide (cn (lqN (inR r s) (cn s))<chN (inR r s) (cn s)):=by
 unfold pfB;simp[h]
theorem frK_congr {r q:Nat->Nat} {l:List Nat} {v c:Nat} (h:r v=q v): ∀j,frK r l v c j=frK q l v c j:=by
 intro j;induction j with
 |zero=>rfl
 |succ j ih=>rw[frK,frK,ih,h]
theorem colS_congr {r q:Nat->Nat} {k m:Nat} (h: ∀v,v<m->r v=q v): ∀(j:Nat) (l:List Nat),l.length+j=m->colS r k j l=colS q k j l:=by
 intro j;induction j with
 |zero=>intro l _;rfl
 |succ j ih=>
  intro l hl;rw[colS,colS];congr 1;funext c
  rw[frK_congr (h _ (by omega)),ih (l++ [c]) (by rw[List.length_append];simp;omega)]
theorem chN_congr {r q:Nat->Nat} {m:Nat} (h: ∀v,v<m->r v=q v):chN r m=chN q m:=by
 have e:(fun k=>(cOf r m (k+1)).isSome)=fun k=>(cOf q m (k+1)).isSome:=by
  funext k
  unfold cOf;rw[colS_congr h m [] (by simp)]
 unfold chN;rw[e]
theorem lgK_congr {p q:Nat->Bool}: ∀k,(∀s,s<k->p s=q s)->lgK p k=lgK q k:=by
 intro k;induction k with
 |zero=>intro _;rfl
 |succ k ih=>
  intro h;rw[lgK,lgK,ih fun s hs=>h s (by omega),h k (by omega)]
theorem cliq_congr {r q:Nat->Nat} {m s:Nat} (h: ∀v,v<m->r v=q v) (hs:s<2^m):cliq r s=cliq q s:=by
 unfold cliq;rw[Bool.eq_iff_iff,List.all_eq_true,List.all_eq_true];constructor
 ·intro a v hv;rw[<-h v (bit_lt hs (mem_listN.1 hv).2)];exact a v hv
 ·intro a v hv;rw[h v (bit_lt hs (mem_listN.1 hv).2)];exact a v hv
theorem lqN_congr {r q:Nat->Nat} {m:Nat} (h: ∀v,v<m->r v=q v):lqN r m=lqN q m:=lgK_congr _ fun _ hs=>cliq_congr h hs
def pP (v w:Nat):Nat:=if v<w then (if v=0 then w-1 else v+w) else (if w=0 then v-1 else v+w)
def gC (c n v:Nat):Nat:=bmK (fun w=> !(v==w)&&c.testBit (pP v w)) n
theorem small_table: ∀n,n<4-> ∀c,c<64->chN (gC c (n+1)) (n+1)<=cn (lqN (gC c (n+1)) (n+1)):=by decide+kernel
theorem small_fit {n:Nat} {r:Nat->Nat} (vg:VG n r) (h:n<=4): ∃c,c<64/\ ∀v,v<n->r v=gC c n v:=by
 refine⟨bmK (fun i=>match i with|0=>(r 0).testBit 1|1=>(r 0).testBit 2|2=>(r 0).testBit 3|3=>(r 1).testBit 2|4=>(r 1).testBit 3|_=>(r 2).testBit 3) 6,bmK_lt 6,fun v hv=> ?_⟩;apply Nat.eq_of_testBit_eq;intro w;unfold gC;rw[bmK_bit,bmK_bit];by_cases hw:w<n
 ·rw[decide_eq_true hw,Bool.true_and];have hv4:v=0\/v=1\/v=2\/v=3:=by omega
  have hw4:w=0\/w=1\/w=2\/w=3:=by omega
  have hi:=vg.irr v hv;have hs:=vg.sym v w hv hw;rcases hv4 with rfl|rfl|rfl|rfl<;>rcases hw4 with rfl|rfl|rfl|rfl<;>first|exact hi|(simp[pP];done)|(simp[pP,hs];done)
 ·rw[decide_eq_false hw,Bool.false_and];cases hb:(r v).testBit w
  ·rfl
  ·exact absurd (bit_lt (vg.lt v hv) hb) hw
theorem small_perfect {n:Nat} {r:Nat->Nat} (vg:VG n r) (h:n<=4):chN r n<=cn (lqN r n):=by
 obtain⟨c,hc,e⟩:=small_fit vg h;have n1:=vg.n1;rw[chN_congr e,lqN_congr e];have:=small_table (n-1) (by omega) c hc;rwa [show n-1+1=n by omega] at this
theorem pfB_small {r:Nat->Nat} {m s:Nat} (vg:VG m r) (hs:s<2^m) (h0:s≠0) (h:cn s<=4):pfB r s=false:=by
 rw[pfB_not h0];have:=small_perfect (inR_vg vg hs h0) h;exact decide_eq_false (by omega)
def jnB (L R:List Int) (v u:Nat):Bool:=decide (L.getD v 0<=R.getD u 0)&&decide (L.getD u 0<=R.getD v 0)
set_option maxHeartbeats 6400000
set_option maxRecDepth 100000 in
theorem induced_v {A:Option Addr} {m c:Nat} {r:Nat->Nat} {s:Nat} {w:World} (h:GV w A m c r) (hs:s<2^m) (h0:s≠0):
 Calls Tryz.prog 314 #[.agg #[.int .i64 m,.slice A m c],.int .i64 s] w fun e w'=> ∃A' c',e=.returned (.agg #[.int .i64 (cn s:Nat),.slice A' (cn s) c'])/\Own w' w.heap.size w'.heap.size 3 1 A' (cn s) c' (fun j=> .int .i64 (inR r s j:Nat))/\Below w.heap.size w w':=by
 have hn7:=h.vg.n7;have h128:=two_pow_le hn7;have HV:=hh_ h.vg;have HS:=hh_ hs;have hc7:=cn_le s;have hc1:=cn_one (by omega) h0;have Hat:Hid (∀i,(hi:i<(listN s).length)->(listN s)[i]=lsN s i):=fun i hi=>lsN_at hi
 have Hls:Hid (∀i,i<(listN s).length->lsN s i<m):=fun i hi=>(lsN_bit hs hi).1
 obtain⟨b0,o0,rfl⟩:=h.addr;obtain⟨W,hW⟩: ∃W,W=((w.alloc (Obj.cells #[.int .i64 m,.slice (some ⟨b0,o0,none⟩) m c] 26)).alloc (Obj.cells #[.int .i64 0,.slice none 0 0] 26)):=⟨_,rfl⟩;have HB:Hid (From w W):=by rw[hW];exact(From.alloc _ _).alloc_ _
 have HG:Hid (GBox W w.heap.size (some ⟨b0,o0,none⟩) m c r):=by rw[hW];exact h.box.keep (br_.alloc nr_ _)
 have HQ:Hid (GC W (w.heap.size+1) 0 none 0 0):=by
  rw[hW];have:=GC.new (w.alloc (Obj.cells #[.int .i64 m,.slice (some ⟨b0,o0,none⟩) m c] 26)) 0 none 0 0;show GC _ _ _ _ _ _;simpa using this
 have HW:=hh_ hW;have KL:=hh_ (ListOf_v s (by omega) W);have Hfin:Hid (∀j,j<(listN s).length->iK r s (listN s).length 0 j=inR r s j):=fun j hj=>iK_end hj
 have Hnx:Hid (∀i j,iK r s i (listN s).length j=iK r s (i+1) 0 j):=fun i j=>iK_next r s i j
 rw[show cn s=(listN s).length from rfl] at hc7 hc1 ⊢;obtain⟨n,hn⟩: ∃n,n=(listN s).length:=⟨_,rfl⟩;have Hn:=hh_ hn;clear hW h h0 hs;go_enter Tryz.func314,Tryz.ntmps314;obtain⟨e0,e1⟩:=gx_ HG;go_wp2_with fail
 rw[<-HW.out];clear HW;refine KL.mono ?_;rintro e w1 ⟨Al,cl,rfl,ho1,hb1⟩;have HL:=hh_ ho1;clear e0 e1;replace HB:=hh_ (HB.keep hb1);replace HQ:=hh_ (HQ.keep hb1);replace HG:=hh_ (HG.keep hb1);clear hb1 ho1 KL;obtain⟨e0,e1⟩:=gx_ HG;rw[<-hn] at hc7 hc1 ⊢;clear hn;obtain⟨W2,hmk,hO2,hb2⟩:=made_own w1 n (by omega);have hz2:w1.heap.size+1<=W2.heap.size:=by
  obtain⟨_,e,_,_,h,_⟩:=hO2.at_ (by omega);injection e with e
  injection e with e
  omega
 obtain⟨W3,hW3⟩: ∃W3,W3=(W2.alloc (Obj.cells #[.int .i64 n,.slice (some ⟨w1.heap.size,0,none⟩) n n] 26)):=⟨_,rfl⟩;have hb3:Below W2.heap.size W2 W3:=by rw[hW3];exact br_.alloc nr_ _
 have HO3:Hid (Own W3 w1.heap.size (w1.heap.size+1) 3 1 (some ⟨w1.heap.size,0,none⟩) n n (fun j=> .int .i64 (iK r s 0 0 j:Nat))):=(hO2.keepB hb3 hz2).congr fun j _=>by rw[iK_zero];rfl
 have HU3:Hid (GC W3 W2.heap.size n (some ⟨w1.heap.size,0,none⟩) n n):=by rw[hW3];exact GC.new _ _ _ _ _
 have HR3:Hid (Below w1.heap.size w1 W3):=hb2.trans (hb3.mono (by omega));have HW3:=hh_ hW3;clear hW3 hb3 hb2 hO2;go_wp2_with fail
 rw[<-HW3.out];clear HW3 hmk e0 e1;go_loopw [21] (fun iv wr=> ∃i:Nat,i<=n/\iv=.int .i64 i/\Hid (Own wr w1.heap.size (w1.heap.size+1) 3 1 (some ⟨w1.heap.size,0,none⟩) n n (fun j=> .int .i64 (iK r s i 0 j:Nat)))/\Hid (GC wr W2.heap.size n (some ⟨w1.heap.size,0,none⟩) n n)/\Hid (Below w1.heap.size w1 wr)) (fun iv _=>n-(intOf iv).toNat);case atStart=>exact⟨0,Nat.zero_le _,rfl,HO3,HU3,HR3⟩
 case round=>
  clear HO3 HU3 HR3;obtain⟨i,hi,rfl,HO,HU,HR⟩:=hrel;by_cases hin:i<n
  ·have i1:(i:Int)<n:=by omega
   have HLr:=hh_ (HL.keep HR.out);obtain⟨b5,o5,rfl⟩:=HL.ln.addr (by rw[<-Hn.out];omega);have p0:=HLr.ln.at (j:=i) (by rw[<-Hn.out];omega);rw[Hat.out i (by rw[<-Hn.out];omega)] at p0;obtain⟨y,hy⟩: ∃y,y=lsN s i:=⟨_,rfl⟩;have hym:y<m:=by rw[hy];exact Hls.out i (by rw[<-Hn.out];omega)
   rw[<-hy] at p0;have Hy:=hh_ hy;clear hy HLr;go_wp2;go_loopw [28] (fun kv wr=> ∃k:Nat,k<=n/\kv=.int .i64 k/\Hid (Own wr w1.heap.size (w1.heap.size+1) 3 1 (some ⟨w1.heap.size,0,none⟩) n n (fun j=> .int .i64 (iK r s i k j:Nat)))/\Hid (GC wr W2.heap.size n (some ⟨w1.heap.size,0,none⟩) n n)/\Hid (Below w1.heap.size w1 wr)) (fun kv _=>n-(intOf kv).toNat);case atStart=>exact⟨0,Nat.zero_le _,rfl,HO,HU,HR⟩
   case round=>
    clear HO HU HR p0;obtain⟨k,hk,rfl,HO,HU,HR⟩:=hrel;by_cases hkn:k<n
    ·have i2:(k:Int)<n:=by omega
     have HLr:=hh_ (HL.keep HR.out);have p1:=HLr.ln.at (j:=k) (by rw[<-Hn.out];omega);rw[Hat.out k (by rw[<-Hn.out];omega)] at p1;obtain⟨u,hu⟩: ∃u,u=lsN s k:=⟨_,rfl⟩;have hum:u<m:=by rw[hu];exact Hls.out k (by rw[<-Hn.out];omega)
     rw[<-hu] at p1;have HGr:=hh_ (HG.keep HR.out);have e0:=HGr.c0;have e1:=HGr.c1;have q0:=HGr.gv.row hym;have hr:=HV.lt128 hym;have hbit:(r (lsN s i)).testBit (lsN s k)=(r y).testBit u:=by rw[Hy.out,hu]
     obtain⟨x,hx⟩: ∃x,x=r y:=⟨_,rfl⟩;rw[<-hx] at q0 hr hbit;have i3:(y:Int)<m:=by omega
     clear hu hx HLr HGr;cases hb:x.testBit u
     ·have K1:=hh_ (has_q hr (by omega) hb wr);have HO':Hid (Own wr w1.heap.size (w1.heap.size+1) 3 1 (some ⟨w1.heap.size,0,none⟩) n n (fun j=> .int .i64 (iK r s i (k+1) j:Nat))):=HO.congr fun j _=>by rw[iK_no (hbit.trans hb)]
      clear hb hbit;go_wp2_with fail
      refine K1.mono ?_;rintro e wr ⟨rfl,rfl⟩;go_wp2;go_roundw;case rel=>exact⟨k+1,by omega,by go_num,HO',HU,HR⟩
      case measure=>simp[intOf]<;>omega
     ·have K1:=hh_ (has_q hr (by omega) hb wr);have Hst:Hid (∀j,iK r s i (k+1) j=if j=i then iK r s i k i|||2^k else iK r s i k j):=iK_yes (hbit.trans hb);clear hb hbit;go_wp2_with fail
      refine K1.mono ?_;rintro e wr ⟨rfl,rfl⟩;obtain⟨_,ea,_,_,_,h1,h2⟩:=HO.at_ (by omega);simp only[Option.some.injEq,Addr.mk.injEq,and_true] at ea;subst ea;have q1:=h1 i (by omega);have f1:=h2 i;have hcl:iK r s i k i<2^k:=by rw[iK_at];exact bmK_lt k
      have h2k:=two_pow_le (n:=k) (by omega);obtain⟨z,hz⟩: ∃z,z=2^k:=⟨_,rfl⟩;have p2:IntKind.i64.wrap ((2:Int)^k)=(z:Int):=by rw[pow_shl k (by omega),hz];simp
      obtain⟨cc,hcc⟩: ∃cc,cc=iK r s i k i:=⟨_,rfl⟩;obtain⟨t,ht⟩: ∃t,t=cc|||z:=⟨_,rfl⟩;have E2:bits .or .i64 (cc:Int) (z:Int)=t:=by rw[ht];exact i64_or_nat _ _ (by omega) (by omega)
      have HO':Hid (Own (wr.setCell ⟨w1.heap.size,i,none⟩ (.int .i64 (t:Nat))).drew w1.heap.size (w1.heap.size+1) 3 1 (some ⟨w1.heap.size,0,none⟩) n n (fun j=> .int .i64 (iK r s i (k+1) j:Nat))):=((HO.set_ i _).drew).congr fun j _=>by
       rw[Hst.out];by_cases e:j=i
       ·rw[if_pos e,if_pos e,ht,hcc,hz]
       ·rw[if_neg e,if_neg e]
      rw[<-hcc] at q1;have d0:=HU.c0;have d1:=HU.c1;have F:Hid (Fr w1.heap.size (w1.heap.size+1) wr (wr.setCell ⟨w1.heap.size,i,none⟩ (.int .i64 (t:Nat))).drew):=((Fr.refl _ _ wr).setCell (p:=⟨w1.heap.size,i,none⟩) nr_ (Nat.lt_succ_self _) _).drew;have HU':Hid (GC (wr.setCell ⟨w1.heap.size,i,none⟩ (.int .i64 (t:Nat))).drew W2.heap.size n (some ⟨w1.heap.size,0,none⟩) n n):=HU.keepF F.out (.inr hz2);have HR':Hid (Below w1.heap.size w1 (wr.setCell ⟨w1.heap.size,i,none⟩ (.int .i64 (t:Nat))).drew):=(HR.setCell (p:=⟨w1.heap.size,i,none⟩) nr_ _).drew;clear h1 h2 hz ht hcc hcl h2k e0 e1 q0 p1 K1 F;go_wp2;go_region
      clear q1 f1 p2 E2 d0 d1;go_wp2;go_roundw;case rel=>exact⟨k+1,by omega,by go_num,HO',HU',HR'⟩
      case measure=>simp[intOf]<;>omega
    ·obtain rfl:n=k:=by omega
     have HO':Hid (Own wr w1.heap.size (w1.heap.size+1) 3 1 (some ⟨w1.heap.size,0,none⟩) n n (fun j=> .int .i64 (iK r s (i+1) 0 j:Nat))):=HO.congr fun j _=>by
      have:=Hnx.out i j;rw[<-Hn.out] at this;rw[this]
     go_wp2;go_roundw;case rel=>exact⟨i+1,by omega,by go_num,HO',HU,HR⟩
     case measure=>simp[intOf]<;>omega
  ·obtain rfl:n=i:=by omega
   have e0:=HU.c0;have e1:=HU.c1;have HQr:=hh_ (HQ.keep HR.out);have d0:=HQr.c0;have d1:=HQr.c1;have d2:=HQr.f0;have d3:=HQr.f1;have F:=fr2 wr (w.heap.size+1) (.int .i64 (n:Int)) (.slice (some ⟨w1.heap.size,0,none⟩) n n);have hz1:=HB.below.size;have hq1:=HQ.lt;have HBz:Hid (From w wr):=⟨HB.below.trans (HR.mono hz1)⟩;have HE:=(HBz.set (q:=w.heap.size+1) (Nat.le_succ _) (.int .i64 (n:Int)) (.slice (some ⟨w1.heap.size,0,none⟩) n n)).below;have hgl:=HU.lt;have HOE:=(HO.keep F (.inr (by omega))).mono (by omega:w.heap.size<=w1.heap.size) (Nat.le_trans (show w1.heap.size+1<=wr.heap.size by omega) F.size);have HOF:Hid (Own ((wr.setCell ⟨w.heap.size+1,0,none⟩ (.int .i64 (n:Int))).setCell ⟨w.heap.size+1,1,none⟩ (.slice (some ⟨w1.heap.size,0,none⟩) n n)) w.heap.size ((wr.setCell ⟨w.heap.size+1,0,none⟩ (.int .i64 (n:Int))).setCell ⟨w.heap.size+1,1,none⟩ (.slice (some ⟨w1.heap.size,0,none⟩) n n)).heap.size 3 1 (some ⟨w1.heap.size,0,none⟩) n n (fun j=> .int .i64 (inR r s j:Nat))):=HOE.congr fun j hj=>by
    have:=Hfin.out j (by rw[<-Hn.out];omega);rw[<-Hn.out] at this;rw[this]
   clear HOE;go_wp2;exact bodyPost_ret (v:=.agg #[.int .i64 (n:Int),.slice (some ⟨w1.heap.size,0,none⟩) n n]) (by simp[results,Tryz.results314,go_sem, *]) rfl ⟨some ⟨w1.heap.size,0,none⟩,n,by rw[<-Hn.out],by rw[<-Hn.out];exact HOF.out,HE⟩
theorem ind_gv {A':Option Addr} {m c':Nat} {r:Nat->Nat} {s lo hi:Nat} {w':World} (vg:VG m r) (hs:s<2^m) (h0:s≠0) (h:Own w' lo hi 3 1 A' (cn s) c' (fun j=> .int .i64 (inR r s j:Nat))) (hhi:hi<=w'.heap.size):GV w' A' (cn s) c' (inR r s):=by
 exact⟨inR_vg vg hs h0,h.rd.keep br_ hhi⟩
set_option maxHeartbeats 1600000
def pfO (r:Nat->Nat) (m:Nat):Option Nat:=lsK (pfB r) (2^m)
noncomputable def peB (sz:Int) (m:Nat) (x:Nat->Int):Bool:=okB sz m x&& !(pfO (rw_ x) m).isSome
theorem peB_no {sz:Int} {m:Nat} {x:Nat->Int} (h:okB sz m x=false):peB sz m x=false:=by unfold peB;rw[h];rfl
theorem peB_yes {sz:Int} {m:Nat} {x:Nat->Int} (h:okB sz m x=true):peB sz m x= !(pfO (rw_ x) m).isSome:=by unfold peB;rw[h];rfl
section
variable {A:Option Addr} {m c:Nat} {r:Nat->Nat} {s:Nat} {w:World}
set_option maxRecDepth 100000 in
theorem InducedOn_v (h:GV w A m c r) (hs:s<2^m) (h0:s≠0):
 Calls Tryz.prog 252 #[.agg #[.int .i64 m,.slice A m c],.int .i64 s] w fun e w'=> ∃A' c',e=.returned (.tuple #[.agg #[.int .i64 (cn s:Nat),.slice A' (cn s) c'],.bool true])/\Own w' w.heap.size w'.heap.size 3 1 A' (cn s) c' (fun j=> .int .i64 (inR r s j:Nat))/\Below w.heap.size w w':=by
 obtain⟨W,hW⟩: ∃W,W=((w.alloc (Obj.cells #[.int .i64 m,.slice A m c] 26)).alloc (Obj.cells #[.int .i64 0,.slice none 0 0] 26)):=⟨_,rfl⟩;have HB:Hid (From w W):=by rw[hW];exact(From.alloc _ _).alloc_ _
 have HG:Hid (GBox W w.heap.size A m c r):=by rw[hW];exact h.box.keep (br_.alloc nr_ _)
 have HQ:Hid (GC W (w.heap.size+1) 0 none 0 0):=by
  rw[hW];have:=GC.new (w.alloc (Obj.cells #[.int .i64 m,.slice A m c] 26)) 0 none 0 0;show GC _ _ _ _ _ _;simpa using this
 have HW:=hh_ hW;have hne:((s:Int)==0)=false:=by simp;omega
 have Hs:=hh_ hs;have H0:=hh_ h0;obtain⟨n,hn⟩: ∃n,n=cn s:=⟨_,rfl⟩;rw[<-hn];have Hn:=hh_ hn;clear hW h hs h0 hn;go_enter Tryz.func252,Tryz.ntmps252;obtain⟨e0,e1⟩:=gx_ HG;go_wp2_with fail
 rw[<-HW.out];clear HW;refine(IsSet_v HG.gv Hs.out).mono ?_;rintro e w1 ⟨rfl,hb1⟩;clear e0 e1;replace HB:=hh_ (HB.keep hb1);replace HQ:=hh_ (HQ.keep hb1);replace HG:=hh_ (HG.keep hb1);clear hb1;obtain⟨e0,e1⟩:=gx_ HG;have KI:=hh_ (induced_v HG.gv Hs.out H0.out);rw[<-Hn.out] at KI;have hq1:=HQ.lt;go_wp2_with fail
 refine KI.mono ?_;rintro e w2 ⟨A2,c2,rfl,ho2,hb2⟩;have HO2:=hh_ ho2;have HZ2:Hid (w1.heap.size<=w2.heap.size):=hb2.size;clear e0 e1;replace HB:=hh_ (HB.keep hb2);replace HQ:=hh_ (HQ.keep hb2);replace HG:=hh_ (HG.keep hb2);clear hb2 ho2 KI;obtain⟨e0,e1⟩:=gx_ HG;have d0:=HQ.c0;have d1:=HQ.c1;have d2:=HQ.f0;have d3:=HQ.f1;have F:=fr2 w2 (w.heap.size+1) (.int .i64 (n:Int)) (.slice A2 n c2);have HE:=(HB.set (q:=w.heap.size+1) (Nat.le_succ _) (.int .i64 (n:Int)) (.slice A2 n c2)).below;have HOE:=(HO2.keep F (.inr (by omega))).mono (by omega:w.heap.size<=w1.heap.size) F.size;go_wp2;exact bodyPost_ret (v:=.tuple #[.agg #[.int .i64 (n:Int),.slice A2 n c2],.bool true]) (by simp[results,Tryz.results252,go_sem, *]) rfl ⟨A2,c2,rfl,HOE,HE⟩
set_option maxRecDepth 100000 in
theorem InducedOn_v0 (h:GV w A m c r):
 Calls Tryz.prog 252 #[.agg #[.int .i64 m,.slice A m c],.int .i64 0] w fun e w'=>e=.returned (.tuple #[.agg #[.int .i64 0,.slice none 0 0],.bool false])/\Below w.heap.size w w':=by
 obtain⟨W,hW⟩: ∃W,W=((w.alloc (Obj.cells #[.int .i64 m,.slice A m c] 26)).alloc (Obj.cells #[.int .i64 0,.slice none 0 0] 26)):=⟨_,rfl⟩;have HB:Hid (From w W):=by rw[hW];exact(From.alloc _ _).alloc_ _
 have HG:Hid (GBox W w.heap.size A m c r):=by rw[hW];exact h.box.keep (br_.alloc nr_ _)
 have HQ:Hid (GC W (w.heap.size+1) 0 none 0 0):=by
  rw[hW];have:=GC.new (w.alloc (Obj.cells #[.int .i64 m,.slice A m c] 26)) 0 none 0 0;show GC _ _ _ _ _ _;simpa using this
 have HW:=hh_ hW;have KS:Hid (Calls Tryz.prog 313 #[.agg #[.int .i64 m,.slice A m c],.int .i64 0] W fun e w'=>e=.returned (.bool true)/\Below W.heap.size W w'):=IsSet_v (s:=0) HG.gv (Nat.two_pow_pos m);clear hW h;go_enter Tryz.func252,Tryz.ntmps252;obtain⟨e0,e1⟩:=gx_ HG;go_wp2_with fail
 rw[<-HW.out];clear HW;refine KS.mono ?_;rintro e w1 ⟨rfl,hb1⟩;clear e0 e1;replace HB:=hh_ (HB.keep hb1);replace HQ:=hh_ (HQ.keep hb1);replace HG:=hh_ (HG.keep hb1);clear hb1 KS;obtain⟨e0,e1⟩:=gx_ HG;have d0:=HQ.c0;have d1:=HQ.c1;have d2:=HQ.f0;have d3:=HQ.f1;have HE:=(HB.set (q:=w.heap.size+1) (Nat.le_succ _) (.int .i64 0) (.slice none 0 0)).below;go_wp2;exact bodyPost_ret (v:=.tuple #[.agg #[.int .i64 0,.slice none 0 0],.bool false]) (by simp[results,Tryz.results252,go_sem, *]) rfl ⟨rfl,HE⟩
set_option maxRecDepth 100000 in
theorem PrfF (h:GV w A m c r) (hs:s<2^m):
 Calls Tryz.prog 251 #[.agg #[.int .i64 m,.slice A m c],.int .i64 s] w fun e w'=>e=.returned (.bool (pfB r s))/\Below w.heap.size w w':=by
 have hn7:=h.vg.n7;have HV:=hh_ h.vg;have Hs:=hh_ hs;obtain⟨W,hW,HB,HG⟩:=gbW h;have HW:=hh_ hW;clear hW h;obtain⟨e0,e1⟩:=gx_ HG;by_cases h0:s=0
 ·subst h0;have KI:=hh_ (InducedOn_v0 HG.gv);have Hp:Hid (pfB r 0=false):=pfB_zero r;go_enter Tryz.func251,Tryz.ntmps251;have HZ:Hid (((0:Nat):Int)=0):=rfl;rw[HZ.out];go_wp2_with fail
  rw[<-HW.out];refine(KI.out).mono ?_;rintro e w1 ⟨rfl,hb1⟩;clear HW;clear e0 e1;obtain⟨HB,HG,e0,e1⟩:=kG_ HB HG hb1;clear hb1;obtain⟨W2,hW2⟩: ∃W2,W2=(w1.alloc (Obj.cells #[.int .i64 0,.slice none 0 0] 26)):=⟨_,rfl⟩;have hb2:Below w1.heap.size w1 W2:=by rw[hW2];exact br_.alloc nr_ _
  clear e0 e1;replace HB:=hh_ (HB.keep hb2);replace HG:=hh_ (HG.keep hb2);clear KI;obtain⟨e0,e1⟩:=gx_ HG;have HW2:=hh_ hW2;clear hW2 hb2;go_wp2;rw[<-HW2.out];clear HW2;have HSC:Hid (∀z:World,Below W2.heap.size W2 z->(Below W2.heap.size W2 z)):=fun z hz=>hz
  have HZ0:Hid (Below W2.heap.size W2 W2.drew):=br_.drew;have HS1:=hh_ (HSC.out _ HZ0.out);refine wp_region_held_drew (S:=fun z=>Below W2.heap.size W2 z) (by kernel_rfl) HS1.out (fun hHeld=> ?_);refine pcY 0 ?_;refine ptY ?_;iterate 5 (refine ptN ?_)
  iterate 2 (refine ptY ?_)
  refine wpAnyH_done (by kernel_rfl) ?_ _;clear e0 e1;replace HB:=hh_ (HB.keep HZ0.out);replace HG:=hh_ (HG.keep HZ0.out);clear HSC HZ0 HS1;obtain⟨e0,e1⟩:=gx_ HG;go_wp2;go_ret;exact⟨ret_bool Hp.symm,HB.below⟩
 have hp:=pfB_not (r:=r) h0;have KI:=hh_ (InducedOn_v HG.gv Hs.out h0);have Hgv:Hid (∀ {A':Option Addr} {c' lo hi:Nat} {w':World},Own w' lo hi 3 1 A' (cn s) c' (fun j=> .int .i64 (inR r s j:Nat))->hi<=w'.heap.size->GV w' A' (cn s) c' (inR r s)):=fun h hhi=>ind_gv HV Hs.out h0 h hhi
 obtain⟨R,hR⟩: ∃R,R=inR r s:=⟨_,rfl⟩;obtain⟨n,hn⟩: ∃n,n=cn s:=⟨_,rfl⟩;have KI2:Hid (Calls Tryz.prog 252 #[.agg #[.int .i64 m,.slice A m c],.int .i64 s] W fun e w'=> ∃A' c',e=.returned (.tuple #[.agg #[.int .i64 (n:Nat),.slice A' n c'],.bool true])/\GV w' A' n c' R/\Below W.heap.size W w'):=by
  rw[hR,hn];refine KI.mono ?_;rintro e w' ⟨A',c',h1,h2,h3⟩;exact⟨A',c',h1,Hgv.out h2 nr_,h3⟩
 rw[<-hR,<-hn] at hp;obtain⟨X,hX⟩: ∃X,X=chN R n:=⟨_,rfl⟩;obtain⟨Y,hY⟩: ∃Y,Y=cn (lqN R n):=⟨_,rfl⟩;have KX:Hid (∀ {A':Option Addr} {c':Nat} {z:World},GV z A' n c' R->Calls Tryz.prog 253 #[.agg #[.int .i64 n,.slice A' n c']] z fun e w'=>e=.returned (.int .i64 (X:Nat))/\Below z.heap.size z w'):=by rw[hX];exact fun h=>ChromaticNumber_v h
 have KY:Hid (∀ {A':Option Addr} {c':Nat} {z:World},GV z A' n c' R->Calls Tryz.prog 254 #[.agg #[.int .i64 n,.slice A' n c']] z fun e w'=>e=.returned (.int .i64 (Y:Nat))/\Below z.heap.size z w'):=by rw[hY];exact fun h=>CliqueNumber_v h
 rw[<-hX,<-hY] at hp;have Hp:=hh_ hp;clear hR hn hX hY hp KI Hgv h0;go_enter Tryz.func251,Tryz.ntmps251;go_wp2_with fail
 rw[<-HW.out];refine(KI2.out).mono ?_;rintro e w2 ⟨A2,c2,rfl,hg2,hb2⟩;clear HW;clear e0 e1;obtain⟨HB,HG,e0,e1⟩:=kG_ HB HG hb2;clear hb2;clear KI2;obtain⟨W2,hW2⟩: ∃W2,W2=(w2.alloc (Obj.cells #[.int .i64 n,.slice A2 n c2] 26)):=⟨_,rfl⟩;have hb2:Below w2.heap.size w2 W2:=by rw[hW2];exact br_.alloc nr_ _
 have HU:Hid (GC W2 w2.heap.size n A2 n c2):=by rw[hW2];exact GC.new _ _ _ _ _
 have HG2:Hid (GV W2 A2 n c2 R):=hg2.keep hb2;clear e0 e1;replace HB:=hh_ (HB.keep hb2);replace HG:=hh_ (HG.keep hb2);clear hg2;obtain⟨e0,e1⟩:=gx_ HG;have HW2:=hh_ hW2;clear hW2 hb2;have d0:=HU.c0;have d1:=HU.c1;by_cases hlt:Y<X
 ·have i1:(Y:Int)<X:=by omega
  have Hq:Hid (pfB r s=true):=by show _=_;rw[Hp.out];exact decide_eq_true hlt
  clear hlt;go_wp2;rw[<-HW2.out];clear HW2;obtain⟨HSC,HZ0,HS1⟩:=hsc2 d0 d1;have KR1:Hid (∀z:World,Below W2.heap.size W2 z->_):=fun z hz=>KX.out (HG2.keep hz)
  have KR2:Hid (∀z:World,Below W2.heap.size W2 z->_):=fun z hz=>KY.out (HG2.keep hz)
  refine wpH HS1.out (fun hHeld=> ?_);refine pcY 0 ?_;iterate 2 (refine ptY ?_)
  refine pcY 4 ?_;refine w1H 3 (fun K hK=> ?_);go_simp;go_at_call 253;refine(KR1.out _ HZ0.out).mono ?_
  rintro e w3 ⟨rfl,hb3⟩;have hz3:=bl_trans HZ0.out hb3;refine hK.out _ _ (HSC.out _ hz3) (fun hHeld=> ?_);clear hK K;try simp only[Act.put,sl0,sl1,sl2]
  refine w1H 5 (fun K hK=> ?_);go_simp;go_at_call 254;refine(KR2.out _ hz3).mono ?_
  rintro e w4 ⟨rfl,hb4⟩;have hz4:=bl_trans hz3 hb4;refine hK.out _ _ (HSC.out _ hz4) (fun hHeld=> ?_);clear hK K;try simp only[Act.put,sl0,sl1,sl2]
  iterate 3 (refine ptY ?_)
  refine wpAnyH_done (by kernel_rfl) ?_ _;clear e0 e1;replace HB:=hh_ (HB.keep hz4);replace HG:=hh_ (HG.keep hz4);clear hb3 hz3 hb4 hz4 HSC HZ0 HS1 KR1 KR2;obtain⟨e0,e1⟩:=gx_ HG;go_wp2;go_ret;exact⟨ret_bool Hq.symm,HB.below⟩
 ·have i1:(X:Int)<=Y:=by omega
  have Hq:Hid (pfB r s=false):=by show _=_;rw[Hp.out];exact decide_eq_false hlt
  clear hlt;go_wp2;rw[<-HW2.out];clear HW2;obtain⟨HSC,HZ0,HS1⟩:=hsc2 d0 d1;have KR1:Hid (∀z:World,Below W2.heap.size W2 z->_):=fun z hz=>KX.out (HG2.keep hz)
  have KR2:Hid (∀z:World,Below W2.heap.size W2 z->_):=fun z hz=>KY.out (HG2.keep hz)
  refine wpH HS1.out (fun hHeld=> ?_);refine pcY 0 ?_;iterate 2 (refine ptY ?_)
  refine pcY 4 ?_;refine w1H 3 (fun K hK=> ?_);go_simp;go_at_call 253;refine(KR1.out _ HZ0.out).mono ?_
  rintro e w5 ⟨rfl,hb5⟩;have hz5:=bl_trans HZ0.out hb5;refine hK.out _ _ (HSC.out _ hz5) (fun hHeld=> ?_);clear hK K;try simp only[Act.put,sl0,sl1,sl2]
  refine w1H 5 (fun K hK=> ?_);go_simp;go_at_call 254;refine(KR2.out _ hz5).mono ?_
  rintro e w6 ⟨rfl,hb6⟩;have hz6:=bl_trans hz5 hb6;refine hK.out _ _ (HSC.out _ hz6) (fun hHeld=> ?_);clear hK K;try simp only[Act.put,sl0,sl1,sl2]
  iterate 3 (refine ptY ?_)
  refine wpAnyH_done (by kernel_rfl) ?_ _;clear e0 e1;replace HB:=hh_ (HB.keep hz6);replace HG:=hh_ (HG.keep hz6);clear hb5 hz5 hb6 hz6 HSC HZ0 HS1 KR1 KR2;obtain⟨e0,e1⟩:=gx_ HG;go_wp2;go_ret;exact⟨ret_bool (by rw[Hq.out];first|rfl|exact decide_eq_false (by omega)),HB.below⟩
theorem LeastImperfect_v (h:GV w A m c r):
 Calls Tryz.prog 168 #[.agg #[.int .i64 m,.slice A m c]] w fun e w'=>e=.returned (lsV (pfO r m))/\Below w.heap.size w w':=by
 obtain⟨W,hW,HB,HG⟩:=gbW h;have HW:=hh_ hW;clear hW h;obtain⟨e0,e1⟩:=gx_ HG;have HS:Hid (pfO r m=lsK (pfB r) (2^m)):=rfl;go_enter Tryz.func168,Tryz.ntmps168;go_wp2_with fail
 rw[<-HW.out];refine(least_g (p:=pfB r) (caps:= #[]) (ent_of Tryz.func251 (by kernel_rfl) rfl) W HG.gv (fun s z hs hb=>PrfF (HG.gv.keep hb) hs)).mono ?_;rintro e w1 ⟨rfl,hb1⟩;clear HW;clear e0 e1;obtain⟨HB,HG,e0,e1⟩:=kG_ HB HG hb1;clear hb1;rw[<-HS.out];cases hso:pfO r m with
 |none=>
  have Hn:=hh_ hso;clear hso;rw[lsV_none];go_wp2;go_ret2;exact⟨by rw[Hn.out];rfl,HB.below⟩
 |some k=>
  have Hn:=hh_ hso;clear hso;rw[lsV_some];go_wp2;go_ret2;exact⟨by rw[Hn.out];rfl,HB.below⟩
end
section
variable (sz:Int) (A:Option Addr) (m c:Nat) (x:Nat->Int) (w:World)
theorem LeastImperfect_no (h:GA w A m c x) (hm:m<=1048576) (hok:okB sz m x=false):
 Calls Tryz.prog 168 #[.agg #[.int .i64 sz,.slice A m c]] w fun e w'=>e=.returned (lsV none)/\Below w.heap.size w w':=by
 obtain⟨W,hW,HB,HK,HC⟩:=gaW sz h;have HW:=hh_ hW;have KF:=hh_ (least_no (f:=.func (.func 251) #[] #[]) HK hm hok);clear hW h hok;go_enter Tryz.func168,Tryz.ntmps168;obtain⟨e0,e1⟩:=gc_ HC;go_wp2_with fail
 rw[<-HW.out];refine(KF.out).mono ?_;rintro e w1 ⟨rfl,hb1⟩;clear HW;clear e0 e1;obtain⟨HB,HK,HC,e0,e1⟩:=kC_ HB HK HC hb1;clear hb1;clear KF;rw[lsV_none];go_wp2;go_ret2;exact⟨rfl,HB.below⟩
set_option maxRecDepth 100000 in
theorem IsPerfect_i (h:GA w A m c x) (hm:m<=1048576):
 Calls Tryz.prog 106 #[.agg #[.int .i64 sz,.slice A m c]] w fun e w'=>e=.returned (.bool (peB sz m x))/\Below w.heap.size w w':=by
 obtain⟨W,hW,HB,HK,HC⟩:=gaW sz h;have HW:=hh_ hW;clear hW h;go_enter Tryz.func106,Tryz.ntmps106;cases ho:okB sz m x
 ·have Hn:Hid (peB sz m x=false):=peB_no ho;have KF:=hh_ (LeastImperfect_no sz A m c x W HK hm ho);have Ho:=hh_ ho;clear ho;obtain⟨e0,e1⟩:=gc_ HC;go_wp2_with fail
  rw[<-HW.out];refine(KF.out).mono ?_;rintro e w1 ⟨rfl,hb1⟩;clear HW;clear e0 e1;obtain⟨HB,HK,HC,e0,e1⟩:=kC_ HB HK HC hb1;clear hb1;clear KF;rw[lsV_none];go_wp2_with fail
  refine(IsGraph_any sz A m c x w1 w1.heap.size HK.rd nr_ hm).mono ?_;rintro e w2 ⟨rfl,hb2⟩;rw[Ho.out];clear e0 e1;obtain⟨HB,HK,HC,e0,e1⟩:=kC_ HB HK HC hb2;clear hb2;go_wp2;go_ret;exact⟨ret_bool Hn.symm,HB.below⟩
 obtain⟨_,es,_,_⟩:=okB_ok' ho;subst es;have Hn:Hid (peB (m:Int) m x= !(pfO (rw_ x) m).isSome):=peB_yes ho;have HG:Hid (GBox W w.heap.size A m c (rw_ x)):=⟨HK.gv ho,HC.c0,HC.c1,HC.lt⟩;have KF:=hh_ (LeastImperfect_v HG.gv);obtain⟨o,ho2⟩: ∃o,o=pfO (rw_ x) m:=⟨_,rfl⟩;rw[<-ho2] at Hn KF;clear ho ho2 HC HK;cases o
 ·skip;obtain⟨e0,e1⟩:=gx_ HG;go_wp2_with fail
  rw[<-HW.out];refine(KF.out).mono ?_;rintro e w2 ⟨rfl,hb2⟩;clear HW;clear e0 e1;obtain⟨HB,HG,e0,e1⟩:=kG_ HB HG hb2;clear hb2;clear KF;rw[lsV_none];go_wp2_with fail
  refine(IsGraph_v HG.gv).mono ?_;rintro e w3 ⟨rfl,hb3⟩;clear e0 e1;obtain⟨HB,HG,e0,e1⟩:=kG_ HB HG hb3;clear hb3;go_wp2;go_ret;exact⟨ret_bool Hn.symm,HB.below⟩
 ·skip;obtain⟨e0,e1⟩:=gx_ HG;go_wp2_with fail
  rw[<-HW.out];refine(KF.out).mono ?_;rintro e w4 ⟨rfl,hb4⟩;clear HW;clear e0 e1;obtain⟨HB,HG,e0,e1⟩:=kG_ HB HG hb4;clear hb4;clear KF;rw[lsV_some];go_wp2_with fail
  refine(IsGraph_v HG.gv).mono ?_;rintro e w5 ⟨rfl,hb5⟩;clear e0 e1;obtain⟨HB,HG,e0,e1⟩:=kG_ HB HG hb5;clear hb5;go_wp2;go_ret;exact⟨ret_bool Hn.symm,HB.below⟩
end
end Go.Proofs.YtfabbohijhjpcaaGreatDoor
