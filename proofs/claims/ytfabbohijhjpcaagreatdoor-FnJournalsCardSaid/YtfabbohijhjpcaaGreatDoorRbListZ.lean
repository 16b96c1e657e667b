/- Lemmas. -/
import Derived.Test.YtfabbohijhjpcaaGreatDoorRbV
/-
-/
namespace Go.Proofs.YtfabbohijhjpcaaGreatDoor
noncomputable def setB (sz:Int) (m:Nat) (x:Nat->Int) (s:Int):Bool:=okB sz m x&&decide (0<=s/\s<2^m)
def indB (r:Nat->Nat) (s:Nat):Bool:=nb r s&&&s==0
theorem pow_cast (m:Nat):((2^m:Nat):Int)=2^m:=by simp
theorem setB_yes {sz:Int} {m:Nat} {x:Nat->Int} {s:Nat} (h:okB sz m x=true) (hs:s<2^m):setB sz m x s=true:=by
 unfold setB;have:=pow_cast m;rw[h,decide_eq_true (⟨by omega,by omega⟩:0<=(s:Int)/\(s:Int)<2^m)];rfl
theorem setB_parts {sz:Int} {m:Nat} {x:Nat->Int} {s:Int} (h:setB sz m x s=true):okB sz m x=true/\sz=m/\ ∃k:Nat,s=k/\k<2^m:=by
 unfold setB at h;simp only[Bool.and_eq_true,decide_eq_true_eq] at h;obtain⟨h1,h2,h3⟩:=h;obtain⟨_,e,_⟩:=okB_ok' h1;have:=pow_cast m;exact⟨h1,e,s.toNat,by omega,by omega⟩
theorem setB_out {sz:Int} {m:Nat} {x:Nat->Int} {s:Int} (h:s<0\/2^m<=s):setB sz m x s=false:=by
 unfold setB;rw[decide_eq_false (by omega: ¬(0<=s/\s<2^m)),Bool.and_false]
theorem indB_no {r:Nat->Nat} {s v:Nat} (hv:v<7) (hb:s.testBit v=true) (h:r v&&&s≠0):indB r s=false:=by
 unfold indB;obtain⟨u,hu⟩:=ex_bit h;rw[Nat.testBit_and,Bool.and_eq_true] at hu;have:(nb r s&&&s).testBit u=true:=by
  rw[Nat.testBit_and,Bool.and_eq_true];exact⟨nb_bit.2 ⟨v,hv,hb,hu.1⟩,hu.2⟩
 cases hz:(nb r s&&&s==0)
 ·rfl
 ·have e:nb r s&&&s=0:=by simpa using hz
  rw[e] at this;simp at this
theorem indB_yes {r:Nat->Nat} {s:Nat} (h: ∀v,v<7->s.testBit v=true->r v&&&s=0):indB r s=true:=by
 unfold indB;rw[beq_iff_eq];apply Nat.eq_of_testBit_eq;intro u;rw[Nat.zero_testBit,Nat.testBit_and];cases hu:s.testBit u
 ·simp
 ·cases hn:(nb r s).testBit u
  ·rfl
  ·obtain⟨v,hv,hb,hr⟩:=nb_bit.1 hn;have:=h v hv hb;have h2:(r v&&&s).testBit u=true:=by rw[Nat.testBit_and,hr,hu];rfl
   rw[this] at h2;simp at h2
open Go.RowKit
set_option maxHeartbeats 1000000
theorem CountSet_v (s:Nat) (hs:s<128) (w:World):
 Calls Tryz.prog 300 #[.int .i64 s] w fun e w'=>e=.returned (.int .i64 (cn s:Int))/\Below w.heap.size w w':=CountSet_i s hs w
theorem CountSet_sv (s:Nat) (hs:s<128) (w:World):
 Calls Tryz.prog 262 #[.int .i64 s] w fun e w'=>e=.returned (.int .i64 (cn s:Int))/\Below w.heap.size w w':=CountSet_s s hs w
section
variable {A:Option Addr} {m c:Nat} {r:Nat->Nat} {fn:FuncId} {caps:Array Value} {p:Nat->Bool}
theorem largest_g (hef:Ent fn) (w:World) (h:GV w A m c r)
 (HF: ∀(s:Nat) (z:World),s<2^m->Below w.heap.size w z->Calls Tryz.prog fn (#[.agg #[.int .i64 m,.slice A m c],.int .i64 s]++caps) z (fun e z'=>e=.returned (.bool (p s))/\Below z.heap.size z z')):
 Calls Tryz.prog 340 #[.agg #[.int .i64 m,.slice A m c],.func (.func fn) #[] caps] w fun e w'=>e=.returned (.int .i64 (lgK p (2^m):Nat))/\Below w.heap.size w w':=by
 have hn7:=h.vg.n7;unfold Ent at hef;have h128:=two_pow_le hn7;have hpos:=Nat.two_pow_pos m;obtain⟨W,hW,HB,HG⟩:=gbW h;have HW:=hh_ hW;clear hW h;obtain⟨e0,e1⟩:=gx_ HG;have HF:=hh_ HF;go_enter Tryz.func340,Tryz.ntmps340;go_wp2_with fail
 rw[<-HW.out];refine(IsGraph_v HG.gv).mono ?_;rintro e w1 ⟨rfl,hb1⟩;clear HW;clear e0 e1;obtain⟨HB,HG,e0,e1⟩:=kG_ HB HG hb1;clear hb1;go_wp2;go_loopw [5,6] (fun b i wr=> ∃k:Nat,1<=k/\k<=2^m/\i=.int .i64 k/\b=.int .i64 (lgK p k:Nat)/\Hid (From w1 wr)) (fun _ i _=>2^m-(intOf i).toNat);case atStart=>exact⟨1,nr_,hpos,rfl,by rw[lgK_one];rfl,From.refl _⟩
 case round=>
  obtain⟨k,hk1,hk,rfl,rfl,HR⟩:=hrel;clear e0 e1;replace HB:=hh_ (HB.keep HR.below);replace HG:=hh_ (HG.keep HR.below);obtain⟨e0,e1⟩:=gx_ HG;have hlk:=lgK_lt (p:=p) k (by omega);go_wp2_with fail
  refine(all_v HG.gv).mono ?_;rintro e w2 ⟨rfl,hb2⟩;clear e0 e1;replace HB:=hh_ (HB.keep hb2);replace HG:=hh_ (HG.keep hb2);replace HR:=hh_ (HR.keep hb2);clear hb2;obtain⟨e0,e1⟩:=gx_ HG;by_cases hlt:k<2^m
  ·have i1:(k:Int)<=((2^m-1:Nat):Int):=by omega
   go_wp2_with fail
   refine(CountSet_v k (by omega) _).mono ?_;rintro e w3 ⟨rfl,hb3⟩;clear e0 e1;replace HB:=hh_ (HB.keep hb3);replace HG:=hh_ (HG.keep hb3);replace HR:=hh_ (HR.keep hb3);clear hb3;obtain⟨e0,e1⟩:=gx_ HG;go_wp2_with fail
   refine(CountSet_v (lgK p k) (by omega) _).mono ?_;rintro e w4 ⟨rfl,hb4⟩;clear e0 e1;replace HB:=hh_ (HB.keep hb4);replace HG:=hh_ (HG.keep hb4);replace HR:=hh_ (HR.keep hb4);clear hb4;obtain⟨e0,e1⟩:=gx_ HG;by_cases hcn:cn (lgK p k)<cn k
   ·have KF:=hh_ (HF.out k _ hlt HB.below);have i2:((cn (lgK p k):Nat):Int)<((cn k:Nat):Int):=by omega
    go_wp2_with fail
    refine(KF.out).mono ?_;rintro e w5 ⟨rfl,hb5⟩;clear e0 e1;replace HB:=hh_ (HB.keep hb5);replace HG:=hh_ (HG.keep hb5);replace HR:=hh_ (HR.keep hb5);clear hb5;obtain⟨e0,e1⟩:=gx_ HG;cases hp:p k
    ·have Hn:Hid (lgK p (k+1)=lgK p k):=lgK_no (.inr hp);clear hp KF;go_wp2;go_roundw;case rel=>exact⟨k+1,by omega,by omega,by go_num,by rw[Hn.out],HR⟩
     case measure=>simp[intOf];omega
    ·have Hn:Hid (lgK p (k+1)=k):=lgK_yes hcn hp;clear hp KF;go_wp2;go_roundw;case rel=>exact⟨k+1,by omega,by omega,by go_num,by rw[Hn.out],HR⟩
     case measure=>simp[intOf];omega
   ·have Hn:Hid (lgK p (k+1)=lgK p k):=lgK_no (.inl hcn);have i2:((cn k:Nat):Int)<=((cn (lgK p k):Nat):Int):=by omega
    go_wp2;go_roundw;case rel=>exact⟨k+1,by omega,by omega,by go_num,by rw[Hn.out],HR⟩
    case measure=>simp[intOf];omega
  ·have hkm:k=2^m:=by omega
   have i1:((2^m-1:Nat):Int)<(k:Int):=by omega
   have Hk:Hid (lgK p k=lgK p (2^m)):=by rw[hkm];exact rfl
   clear hkm;go_wp2;go_ret;exact⟨ret_int (by rw[Hk.out]),HB.below⟩
end
set_option maxHeartbeats 1000000
structure GA (w:World) (A:Option Addr) (m c:Nat) (x:Nat->Int):Prop where
 rd:Rd w w.heap.size A m c x
theorem GA.keep {w w':World} {A:Option Addr} {m c:Nat} {x:Nat->Int} (h:GA w A m c x) (hb:Below w.heap.size w w'):GA w' A m c x:=⟨h.rd.keep hb hb.size⟩
section
variable {w:World} {A:Option Addr} {m c:Nat}
theorem gaW (sz:Int) {x:Nat->Int} (h:GA w A m c x): ∃W:World,W=(w.alloc (Obj.cells #[Value.int IntKind.i64 sz,Value.slice A m c] 26))/\Hid (From w W)/\Hid (GA W A m c x)/\Hid (GC W w.heap.size sz A m c):=⟨_,rfl,From.alloc _ _,h.keep (From.alloc _ _).below,GC.new _ _ _ _ _⟩
end
theorem kC_ {w0 w w':World} {q m c:Nat} {sz:Int} {x:Nat->Int} {A:Option Addr} (h:Hid (From w0 w)) (k:Hid (GA w A m c x)) (l:Hid (GC w q sz A m c)) (hb:Below w.heap.size w w'):Hid (From w0 w')/\Hid (GA w' A m c x)/\Hid (GC w' q sz A m c)/\w'.cell? ⟨q,0,none⟩=some (.int .i64 sz)/\w'.cell? ⟨q,1,none⟩=some (.slice A m c):=⟨h.out.keep hb,k.out.keep hb,l.out.keep hb,(l.out.keep hb).c0,(l.out.keep hb).c1⟩
theorem GA.gv {w:World} {A:Option Addr} {m c:Nat} {x:Nat->Int} (h:GA w A m c x) (hok:okB m m x=true):GV w A m c (rw_ x):=GV.of h.rd nr_ hok
theorem GV.ga {w:World} {A:Option Addr} {m c:Nat} {r:Nat->Nat} (h:GV w A m c r):GA w A m c (fun v=>(r v:Int)):=⟨h.rd⟩
theorem IsSet_i (sz:Int) (A:Option Addr) (m c:Nat) (x:Nat->Int) (s:Int) (w:World) (h:GA w A m c x) (hm:m<=1048576):
 Calls Tryz.prog 313 #[.agg #[.int .i64 sz,.slice A m c],.int .i64 s] w fun e w'=>e=.returned (.bool (setB sz m x s))/\Below w.heap.size w w':=by
 obtain⟨W,hW,HB,HK,HC⟩:=gaW sz h;have HW:=hh_ hW;clear hW h;go_enter Tryz.func313,Tryz.ntmps313;obtain⟨e0,e1⟩:=gc_ HC;go_wp2_with fail
 rw[<-HW.out];refine(IsGraph_any sz A m c x W W.heap.size HK.rd nr_ hm).mono ?_;rintro e w1 ⟨rfl,hb1⟩;clear HW;clear e0 e1;obtain⟨HB,HK,HC,e0,e1⟩:=kC_ HB HK HC hb1;clear hb1;cases ho:okB sz m x
 ·have hno:Hid (setB sz m x s=false):=by show _=_;unfold setB;rw[ho];rfl
  clear ho;go_wp2;go_ret;exact⟨ret_bool hno.symm,HB.below⟩
 ·obtain⟨_,es,vg0,_⟩:=okB_ok' ho;subst es;have hn7:=vg0.n7;have hp:=two_pow_le hn7;have hpos:=Nat.two_pow_pos m;have hpc:=pow_cast m;have Ho:=hh_ ho;clear ho vg0;go_wp2_with fail
  refine(all_any m A c _ hn7).mono ?_;rintro e w2 ⟨rfl,hb2⟩;clear e0 e1;obtain⟨HB,HK,HC,e0,e1⟩:=kC_ HB HK HC hb2;clear hb2;by_cases hs:0<=s/\s<2^m
  ·have hyes:Hid (setB (m:Int) m x s=true):=by show _=_;unfold setB;rw[Ho.out,decide_eq_true hs];rfl
   obtain⟨s1,s2⟩:=hs;go_wp2_with (first|(go_at_call 60;refine(within_yes _ _ _ _ s1 (by omega)).mono ?_;rintro e w' ⟨rfl,rfl⟩))
   go_ret;exact⟨ret_bool hyes.symm,HB.below⟩
  ·have hno:Hid (setB (m:Int) m x s=false):=setB_out (by omega);have hr:Hid (s<0\/((2^m-1:Nat):Int)<s):=by show _\/_;omega
   clear hs;go_wp2_with (first|(go_at_call 60;refine(within_no _ _ _ _ hr.out).mono ?_;rintro e w' ⟨rfl,rfl⟩))
   go_ret;exact⟨ret_bool hno.symm,HB.below⟩
section
variable {A:Option Addr} {m c:Nat} {r:Nat->Nat}
theorem IsSet_v {w:World} (h:GV w A m c r) {s:Nat} (hs:s<2^m):
 Calls Tryz.prog 313 #[.agg #[.int .i64 m,.slice A m c],.int .i64 s] w fun e w'=>e=.returned (.bool true)/\Below w.heap.size w w':=by
 have:=IsSet_i m A m c _ s w h.ga (by have:=h.vg.n7;omega);rwa [setB_yes h.ok hs] at this
theorem IsClique_v {w:World} (h:GV w A m c r) {s:Nat} (hs:s<2^m):
 Calls Tryz.prog 309 #[.agg #[.int .i64 m,.slice A m c],.int .i64 s] w fun e w'=>e=.returned (.bool (cliq r s))/\Below w.heap.size w w':=by
 obtain⟨W,hW,HB,HG⟩:=gbW h;have HW:=hh_ hW;clear hW h;obtain⟨e0,e1⟩:=gx_ HG;go_enter Tryz.func309,Tryz.ntmps309;go_wp2_with fail
 rw[<-HW.out];refine(IsSet_v HG.gv hs).mono ?_;rintro e w1 ⟨rfl,hb1⟩;clear HW;clear e0 e1;obtain⟨HB,HG,e0,e1⟩:=kG_ HB HG hb1;clear hb1;go_wp2_with fail
 refine(isClique_v HG.gv hs).mono ?_;rintro e w2 ⟨rfl,hb2⟩;clear e0 e1;obtain⟨HB,HG,e0,e1⟩:=kG_ HB HG hb2;clear hb2;go_wp2;go_ret;exact⟨rfl,HB.below⟩
theorem IsIndependent_v {w:World} (h:GV w A m c r) {s:Nat} (hs:s<2^m):
 Calls Tryz.prog 248 #[.agg #[.int .i64 m,.slice A m c],.int .i64 s] w fun e w'=>e=.returned (.bool (indB r s))/\Below w.heap.size w w':=by
 have hp:=two_pow_le h.vg.n7;have hnb:nb r s<2^m:=nb_lt (r:=r) h.vg.lt hs 7;have E:=i64_and_nat (nb r s) s (by omega) (by omega);have hd:Hid ((((nb r s&&&s:Nat):Int)==0)=indB r s):=by
  show _=_;unfold indB;rw[Bool.eq_iff_iff];simp
 obtain⟨W,hW,HB,HG⟩:=gbW h;have HW:=hh_ hW;clear hW h;obtain⟨e0,e1⟩:=gx_ HG;go_enter Tryz.func248,Tryz.ntmps248;go_wp2_with fail
 rw[<-HW.out];refine(IsSet_v HG.gv hs).mono ?_;rintro e w1 ⟨rfl,hb1⟩;clear HW;clear e0 e1;obtain⟨HB,HG,e0,e1⟩:=kG_ HB HG hb1;clear hb1;go_wp2_with fail
 refine(neighbors_v HG.gv hs).mono ?_;rintro e w2 ⟨rfl,hb2⟩;clear e0 e1;obtain⟨HB,HG,e0,e1⟩:=kG_ HB HG hb2;clear hb2;go_wp2;go_ret;exact⟨ret_bool (by rw[<-hd.out]),HB.below⟩
end
set_option maxHeartbeats 1600000
structure LI (w:World) (A:Option Addr) (n c:Nat) (l:List Int):Prop where
 len:n=l.length
 rd:Rd w w.heap.size A n c (fun j=>l.getD j 0)
theorem LI.keep {w w':World} {A:Option Addr} {n c:Nat} {l:List Int} (h:LI w A n c l) (hb:Below w.heap.size w w'):LI w' A n c l:=⟨h.len,h.rd.keep hb hb.size⟩
theorem LI.drew {w:World} {A:Option Addr} {n c:Nat} {l:List Int} (h:LI w A n c l):LI w.drew A n c l:=⟨h.len,h.rd⟩
theorem LI.of {w:World} {B:Nat} {A:Option Addr} {n c:Nat} {x:Nat->Int} (h:Rd w B A n c x) (hB:B<=w.heap.size):LI w A n c ((List.range n).map x):=
 ⟨by simp,(h.keep br_ hB).congr (fun k hk=>by simp[List.getD,hk])⟩
theorem LI.addr {w:World} {A:Option Addr} {n c:Nat} {l:List Int} (h:LI w A n c l) (hn:0<n): ∃b o,A=some ⟨b,o,none⟩:=by
 obtain⟨b,o,e,_⟩:=h.rd.pos hn;exact⟨b,o,e⟩
theorem LI.at {w:World} {b o n c j:Nat} {l:List Int} (h:LI w (some ⟨b,o,none⟩) n c l) (hj:j<n):w.cell? ⟨b,o+j,none⟩=some (.int .i64 (l.getD j 0)):=by
 obtain⟨b',o',e,_,hc⟩:=h.rd.pos (by omega);simp only[Option.some.injEq,Addr.mk.injEq,and_true] at e;obtain⟨rfl,rfl⟩:=e;exact hc j hj
theorem LI.take {w:World} {A:Option Addr} {n c k:Nat} {l:List Int} (h:LI w A n c l) (hk:k<=n):LI w A k c (l.take k):=
 ⟨by rw[List.length_take,<-h.len];omega,by have:=h.rd.1;omega,fun hn=>by
   obtain⟨b,o,e,hb,hc⟩:=h.rd.2 (by omega)
   refine⟨b,o,e,hb,fun j hj=> ?_⟩
   rw[hc j (by omega)]
   simp[List.getD,hj]⟩
theorem getD_mem {l:List Int} {k:Nat} (h:k<l.length):l.getD k 0∈l:=by simp[List.getD,h]
theorem fIdz_in {l:List Int} {v:Int} (h:v∈l): ∃k:Nat,k<l.length/\fIdx (fun j=>l.getD j 0==v) l.length=(k:Int):=by
 unfold fIdx;cases hf:(List.range l.length).find? (fun j=>l.getD j 0==v) with
 |some k=>exact⟨k,by have:=List.mem_of_find?_eq_some hf;simpa using this,rfl⟩
 |none=>
  exfalso;rw[List.find?_eq_none] at hf;obtain⟨i,hi,rfl⟩:=List.mem_iff_getElem.1 h;have:=hf i (List.mem_range.2 hi);simp[List.getD,hi] at this
theorem fIdz_out {l:List Int} {v:Int} (h:v∉l):fIdx (fun j=>l.getD j 0==v) l.length= -1:=by
 refine fIdx_no fun j hj=> ?_
 have:l[j]≠v:=fun e=>h (e▸List.getElem_mem hj)
 simpa [List.getD,hj] using this
theorem Index_z (A:Option Addr) (n c:Nat) (l:List Int) (v:Int) (w:World) (h:LI w A n c l) (hl:n<=1048576):
 Calls Tryz.prog 331 #[.slice A n c,.int .i64 v] w fun e w'=>e=.returned (.int .i64 (fIdx (fun j=>l.getD j 0==v) l.length))/\w=w':=by
 have HR:=hh_ h;have HN:=hh_ h.len;clear h;go_enter Tryz.func331,Tryz.ntmps331;go_wp2;go_loop [8] (fun i=> ∃k:Nat,k<=n/\i=.int .i64 k/\Hid (∀j,j<k->(l.getD j 0==v)=false)) (fun i=>n-(intOf i).toNat);case atStart=>exact⟨0,Nat.zero_le _,rfl,(fun j hj=>absurd hj (by omega))⟩
 case round=>
  obtain⟨k,hk,rfl,hall⟩:=hrel;by_cases hlt:k<n
  ·obtain⟨b,o,rfl⟩:=HR.addr (by omega);have q0:=HR.at hlt;obtain⟨u,hu⟩: ∃u:Int,u=l.getD k 0:=⟨_,rfl⟩;rw[<-hu] at q0;have Hu:=hh_ hu;have i1:(k:Int)<n:=by omega
   clear hu;by_cases hp:v=u
   ·have Hi:Hid (fIdx (fun j=>l.getD j 0==v) l.length=k):=fIdx_yes (by rw[<-HN.out];exact hlt) (by show (l.getD k 0==v)=true;rw[<-Hu.out,hp];simp) hall.out;subst hp;go_wp2;go_ret;exact⟨ret_int Hi.symm,rfl⟩
   ·have hne:(v==u)=false:=by simpa using hp
    have hne2:(v=u)=False:=by simp[hp]
    have Hp:Hid ((l.getD k 0==v)=false):=by show _=_;rw[<-Hu.out];simpa using fun e=>hp e.symm
    clear hp;go_wp2;go_round;case rel=>
     refine⟨k+1,by omega,by go_num,fun j hj=> ?_⟩;by_cases hjk:j<k
     ·exact hall.out j hjk
     ·obtain rfl:j=k:=by omega
      exact Hp.out
    case measure=>simp[intOf];omega
  ·have Hi:Hid (fIdx (fun j=>l.getD j 0==v) l.length= -1):=fIdx_no fun j hj=>hall.out j (by rw[<-HN.out] at hj;omega)
   have i1:(n:Int)<=k:=by omega
   go_wp2;go_ret;exact⟨ret_int Hi.symm,rfl⟩
theorem Contains_z (A:Option Addr) (n c:Nat) (l:List Int) (v:Int) (w:World) (h:LI w A n c l) (hl:n<=1048576):
 Calls Tryz.prog 283 #[.slice A n c,.int .i64 v] w fun e w'=>e=.returned (.bool (decide (v∈l)))/\w=w':=by
 have HI:=hh_ (Index_z A n c l v w h hl);clear h;by_cases hv:v∈l
 ·obtain⟨k,_,hk⟩:=fIdz_in hv;rw[hk] at HI;have Hd:Hid (decide (v∈l)=true):=decide_eq_true hv;have k0:(0:Int)<=k:=by omega
  clear hk hv;go_enter Tryz.func283,Tryz.ntmps283;go_wp2_with fail
  refine HI.mono ?_;rintro e w' ⟨rfl,rfl⟩;go_wp2;go_ret;exact⟨ret_bool Hd.symm,rfl⟩
 ·rw[fIdz_out hv] at HI;have Hd:Hid (decide (v∈l)=false):=decide_eq_false hv;clear hv;go_enter Tryz.func283,Tryz.ntmps283;go_wp2_with fail
  refine HI.mono ?_;rintro e w' ⟨rfl,rfl⟩;go_wp2;go_ret;exact⟨ret_bool Hd.symm,rfl⟩
theorem nodup_lenz: ∀ {m:Nat} {l:List Nat},l.Nodup->(∀v∈l,v<m)->l.length<=m:=by
 intro m;induction m with
 |zero=>
  intro l _ h;cases l with
  |nil=>exact nr_
  |cons a l=>exact absurd (h a (by simp)) (by omega)
 |succ m ih=>
  intro l hn h;by_cases hm:m∈l
  ·have h1:=ih (hn.erase m) (fun v hv=>by
    have:=(hn.mem_erase_iff).1 hv;have:=h v this.2;omega)
   rw[List.length_erase_of_mem hm] at h1;omega
  ·have:=ih hn (fun v hv=>by
    have h1:=h v hv;have:v≠m:=fun e=>hm (e▸hv)
    omega)
   omega
theorem map_nodup {l:List Int} (hn:l.Nodup) (h: ∀v∈l,0<=v):(l.map Int.toNat).Nodup:=by
 induction l with
 |nil=>exact List.nodup_nil
 |cons a l ih=>
  rw[List.nodup_cons] at hn;rw[List.map_cons,List.nodup_cons];refine⟨fun hm=> ?_,ih hn.2 (fun v hv=>h v (by simp[hv]))⟩;obtain⟨b,hb,e⟩:=List.mem_map.1 hm;have h1:=h b (by simp[hb]);have h2:=h a (by simp);have:a=b:=by omega
  exact hn.1 (this▸hb)
def VZ (m:Nat) (l:List Int):Prop:=l.Nodup/\ ∀v∈l,0<=v/\v<m
noncomputable def vzB (m:Nat) (l:List Int):Bool:= @decide (VZ m l) (Classical.propDecidable _)
theorem vzB_yes {m:Nat} {l:List Int} (h:VZ m l):vzB m l=true:= @decide_eq_true _ (Classical.propDecidable _) h
theorem vzB_no {m:Nat} {l:List Int} (h: ¬VZ m l):vzB m l=false:= @decide_eq_false _ (Classical.propDecidable _) h
theorem vzB_iff {m:Nat} {l:List Int}:vzB m l=true↔VZ m l:=⟨(fun h=>Classical.byContradiction fun h2=>by rw[vzB_no h2] at h;cases h),vzB_yes⟩
noncomputable def vrB (sz:Int) (m:Nat) (x:Nat->Int) (l:List Int):Bool:=okB sz m x&&vzB m l
theorem vrB_bad {sz:Int} {m:Nat} {x:Nat->Int} {l:List Int} (h:okB sz m x=false):vrB sz m x l=false:=by unfold vrB;rw[h];rfl
theorem vrB_ok {sz:Int} {m:Nat} {x:Nat->Int} {l:List Int} (h:okB sz m x=true):vrB sz m x l=vzB m l:=by unfold vrB;rw[h];rfl
theorem nodupz_take {l:List Int} {k:Nat} (hk:k<l.length) (h:(l.take k).Nodup) (hn:l.getD k 0∉l.take k):(l.take (k+1)).Nodup:=by
 have e:l.getD k 0=l[k]:=by simp[List.getD,hk]
 rw[e] at hn;rw[List.take_succ_eq_append_getElem hk,List.nodup_append];exact⟨h,by simp,fun a ha b hb e=>by rw[List.mem_singleton] at hb;subst hb;subst e;exact hn ha⟩
theorem not_nodupz {l:List Int} {k:Nat} (hk:k<l.length) (hn:l.getD k 0∈l.take k): ¬l.Nodup:=by
 intro h;have e:l.getD k 0=l[k]:=by simp[List.getD,hk]
 rw[e] at hn;have h2:(l.take (k+1)).Nodup:=h.sublist (List.take_sublist _ _);rw[List.take_succ_eq_append_getElem hk,List.nodup_append] at h2;exact h2.2.2 _ hn _ (List.mem_singleton_self _) rfl
theorem VZ.len {m:Nat} {l:List Int} (h:VZ m l):l.length<=m:=by
 have e:(l.map Int.toNat).length=l.length:=by simp
 rw[<-e];refine nodup_lenz ?_ ?_
 ·exact map_nodup h.1 (fun v hv=>(h.2 v hv).1)
 ·intro v hv;obtain⟨u,hu,rfl⟩:=List.mem_map.1 hv;have:=h.2 u hu;omega
theorem areVertices_z (sz:Int) (A:Option Addr) (m c:Nat) (x:Nat->Int) (Al:Option Addr) (n cl:Nat) (l:List Int) (w:World) (h:GA w A m c x) (hl:LI w Al n cl l) (hm:m<=1048576) (hn:n<=1048576):
 Calls Tryz.prog 291 #[.agg #[.int .i64 sz,.slice A m c],.slice Al n cl] w fun e w'=>e=.returned (.bool (vrB sz m x l))/\Below w.heap.size w w':=by
 obtain⟨W,hW⟩: ∃W,W=(w.alloc (Obj.cells #[.int .i64 sz,.slice A m c] 26)):=⟨_,rfl⟩;have HB:Hid (From w W):=by rw[hW];exact From.alloc _ _
 have HK:=hh_ (h.keep HB.below);have HL:=hh_ (hl.keep HB.below);have HC:Hid (GC W w.heap.size sz A m c):=by rw[hW];exact GC.new _ _ _ _ _
 have HW:=hh_ hW;have HN:=hh_ hl.len;have hcap:n<=cl:=hl.rd.1;obtain⟨e0,e1⟩:=gc_ HC;clear hW h hl;cases ho:okB sz m x
 ·have hno:Hid (vrB sz m x l=false):=vrB_bad ho;have Ho:=hh_ ho;clear ho;go_enter Tryz.func291,Tryz.ntmps291;go_wp2;rw[<-HW.out];clear HW;go_loop [9] (fun i=> ∃k:Nat,k<=n/\i=.int .i64 k) (fun i=>n-(intOf i).toNat);case atStart=>exact⟨0,Nat.zero_le _,rfl⟩
  case round=>
   obtain⟨k,hk,rfl⟩:=hrel;by_cases hlt:k<n
   ·obtain⟨b,o,rfl⟩:=HL.addr (by omega);have q0:=HL.at hlt;obtain⟨u,hu⟩: ∃u:Int,u=l.getD k 0:=⟨_,rfl⟩;rw[<-hu] at q0;have KC:=hh_ (Contains_z (some ⟨b,o,none⟩) k cl (l.take k) u W (HL.take (by omega)) (by omega));have i1:(k:Int)<n:=by omega
    have i4:(k:Int)<=cl:=by omega
    clear hu;go_wp2_with fail
    refine(within_any u 0 _ W).mono ?_;rintro e w' ⟨rfl,rfl⟩;obtain⟨t,ht⟩: ∃t,t=(decide (0<=u)&&decide (u<=wrap64 (sz-1))):=⟨_,rfl⟩;rw[<-ht];clear ht;cases t
    ·go_wp2;go_ret;exact⟨ret_bool hno.symm,HB.below⟩
    ·go_wp2_with fail
     refine KC.mono ?_;rintro e w' ⟨rfl,rfl⟩;obtain⟨t,ht⟩: ∃t,t=decide (u∈l.take k):=⟨_,rfl⟩;rw[<-ht];clear ht;cases t
     ·go_wp2;go_round;case rel=>exact⟨k+1,by omega,by go_num⟩
      case measure=>simp[intOf];omega
     ·go_wp2;go_ret;exact⟨ret_bool hno.symm,HB.below⟩
   ·have i1:(n:Int)<=k:=by omega
    go_wp2_with fail
    refine(IsGraph_any sz A m c x W W.heap.size HK.rd nr_ hm).mono ?_;rintro e w1 ⟨rfl,hb1⟩;rw[Ho.out];have HB1:=hh_ (HB.keep hb1);clear hb1;go_wp2;go_ret;exact⟨ret_bool hno.symm,HB1.below⟩
 ·have hv:Hid (vrB sz m x l=vzB m l):=vrB_ok ho;obtain⟨_,es,vg0,_⟩:=okB_ok' ho;subst es;have hn1:=vg0.n1;have hn7:=vg0.n7;have Ho:=hh_ ho;clear ho vg0;go_enter Tryz.func291,Tryz.ntmps291;go_wp2;rw[<-HW.out];clear HW;go_loop [9] (fun i=> ∃k:Nat,k<=n/\i=.int .i64 k/\Hid ((l.take k).Nodup/\ ∀v∈l.take k,0<=v/\v<(m:Int))) (fun i=>n-(intOf i).toNat);case atStart=>exact⟨0,Nat.zero_le _,rfl,by simp[Hid]⟩
  case round=>
   obtain⟨k,hk,rfl,hall⟩:=hrel;by_cases hlt:k<n
   ·have hkl:k<l.length:=by rw[<-HN.out];exact hlt
    obtain⟨b,o,rfl⟩:=HL.addr (by omega);have q0:=HL.at hlt;have hmem:=getD_mem hkl;obtain⟨u,hu⟩: ∃u:Int,u=l.getD k 0:=⟨_,rfl⟩;rw[<-hu] at q0 hmem;have KC:=hh_ (Contains_z (some ⟨b,o,none⟩) k cl (l.take k) u W (HL.take (by omega)) (by omega));have i1:(k:Int)<n:=by omega
    have i4:(k:Int)<=cl:=by omega
    have Hu:=hh_ hu;have Hm:=hh_ hmem;clear hu hmem;by_cases hr:0<=u/\u<(m:Int)
    ·obtain⟨r1,r2⟩:=hr;go_wp2_with fail
     refine(within_yes u 0 _ W r1 (by omega)).mono ?_;rintro e w' ⟨rfl,rfl⟩;go_wp2_with fail
     refine KC.mono ?_;rintro e w' ⟨rfl,rfl⟩;by_cases hin:u∈l.take k
     ·have hno:Hid (vzB m l=false):=vzB_no fun h=>not_nodupz hkl (by rw[<-Hu.out];exact hin) h.1
      rw[decide_eq_true hin];clear hin;go_wp2;go_ret;exact⟨ret_bool (by rw[hv.out,hno.out]),HB.below⟩
     ·have hyes:Hid ((l.take (k+1)).Nodup/\ ∀v∈l.take (k+1),0<=v/\v<(m:Int)):=by
       refine⟨nodupz_take hkl hall.out.1 (by rw[<-Hu.out];exact hin),fun v hv2=> ?_⟩;rw[List.take_succ_eq_append_getElem hkl,List.mem_append,List.mem_singleton] at hv2;rcases hv2 with h|h
       ·exact hall.out.2 v h
       ·have e:l.getD k 0=l[k]:=by simp[List.getD,hkl]
        rw[h,<-e,<-Hu.out];exact⟨r1,r2⟩
      rw[decide_eq_false hin];clear hin;go_wp2;go_round;case rel=>exact⟨k+1,by omega,by go_num,hyes⟩
      case measure=>simp[intOf];omega
    ·have hno:Hid (vzB m l=false):=vzB_no fun h=>hr (h.2 u Hm.out)
     have hr':Hid (u<0\/(m:Int)-1<u):=by show _\/_;omega
     clear hr;go_wp2_with fail
     refine(within_no u 0 _ W (by have:=hr'.out;omega)).mono ?_;rintro e w' ⟨rfl,rfl⟩;go_wp2;go_ret;exact⟨ret_bool (by rw[hv.out,hno.out]),HB.below⟩
   ·have hyes:Hid (vzB m l=true):=by
     refine vzB_yes ?_;have:=hall.out;rwa [List.take_of_length_le (by rw[<-HN.out];omega)] at this
    have i1:(n:Int)<=k:=by omega
    go_wp2_with fail
    refine(IsGraph_any m A m c x W W.heap.size HK.rd nr_ hm).mono ?_;rintro e w1 ⟨rfl,hb1⟩;rw[Ho.out];have HB1:=hh_ (HB.keep hb1);clear hb1;go_wp2;go_ret;exact⟨ret_bool (by rw[hv.out,hyes.out]),HB1.below⟩
end Go.Proofs.YtfabbohijhjpcaaGreatDoor
