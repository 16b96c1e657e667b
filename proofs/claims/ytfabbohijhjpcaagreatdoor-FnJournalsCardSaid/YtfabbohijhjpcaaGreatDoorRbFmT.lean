/- Lemmas. -/
import Derived.Test.YtfabbohijhjpcaaGreatDoorRbListZ
import Derived.Test.YtfabbohijhjpcaaGreatDoorRbFmS
import Derived.Lib.Join
import Derived.Laws.Closers25b
/-
-/
namespace Go.Proofs.YtfabbohijhjpcaaGreatDoor
open Go.RowKit
set_option maxHeartbeats 1000000
section
variable {A:Option Addr} {m c:Nat} {r:Nat->Nat}
theorem IsIndependent_sv {w:World} (h:GV w A m c r) {s:Nat} (hs:s<2^m):
 Calls Tryz.prog 178 #[.agg #[.int .i64 m,.slice A m c],.int .i64 s] w fun e w'=>e=.returned (.bool (indB r s))/\Below w.heap.size w w':=by
 have hn7:=h.vg.n7;have hp:=two_pow_le hn7;obtain⟨b,o,rfl⟩:=h.addr;have HV:=hh_ h.vg;obtain⟨W,hW⟩: ∃W,W=(w.alloc (Obj.cells #[.int .i64 m,.slice (some ⟨b,o,none⟩) m c] 26)):=⟨_,rfl⟩;have HB:Hid (From w W):=by rw[hW];exact From.alloc _ _
 have HG:Hid (GBox W w.heap.size (some ⟨b,o,none⟩) m c r):=by rw[hW];exact h.box
 have HW:=hh_ hW;clear hW h;obtain⟨e0,e1⟩:=gx_ HG;go_enter Tryz.func178,Tryz.ntmps178;go_wp2_with fail
 rw[<-HW.out];refine(IsSet_sv HG.gv hs).mono ?_;rintro e w1 ⟨rfl,hb1⟩;clear HW;clear e0 e1;obtain⟨HB,HG,e0,e1⟩:=kG_ HB HG hb1;clear hb1;go_wp2;go_loopw [5] (fun i wr=> ∃k:Nat,k<=m/\i=.int .i64 k/\Hid (∀v,v<k->s.testBit v=true->r v&&&s=0)/\Hid (From w1 wr)) (fun i _=>m-(intOf i).toNat);case atStart=>exact⟨0,Nat.zero_le _,rfl,(fun v hv=>absurd hv (by omega)),From.refl _⟩
 case round=>
  obtain⟨k,hk,rfl,hall,HR⟩:=hrel;clear e0 e1;replace HB:=hh_ (HB.keep HR.below);replace HG:=hh_ (HG.keep HR.below);obtain⟨e0,e1⟩:=gx_ HG;by_cases hlt:k<m
  ·have q0:=HG.gv.row hlt;have hr:=HV.lt128 hlt;have E1:=and_one_i64 (s:Int) k (by omega) (by omega);rw[Int.toNat_natCast] at E1;have E2:=i64_and_nat (r k) s (by omega) (by omega);have i1:(k:Int)<m:=by omega
   cases ht:s.testBit k
   ·rw[ht] at E1;have Ht:=hh_ ht;clear ht E2;go_wp2;go_roundw;case rel=>
     refine⟨k+1,by omega,by go_num,fun v hv hb=> ?_,HR⟩;by_cases hvk:v<k
     ·exact hall.out v hvk hb
     ·obtain rfl:v=k:=by omega
      rw[Ht.out] at hb;cases hb
    case measure=>simp[intOf];omega
   ·rw[ht] at E1;by_cases hz:r k&&&s=0
    ·have hne:(bits BinOp.and .i64 (r k:Int) (s:Int) !=0)=false:=by rw[E2,hz];rfl
     have Hz:=hh_ hz;clear ht hz E2;go_wp2;go_roundw;case rel=>
      refine⟨k+1,by omega,by go_num,fun v hv hb=> ?_,HR⟩;by_cases hvk:v<k
      ·exact hall.out v hvk hb
      ·obtain rfl:v=k:=by omega
       exact Hz.out
     case measure=>simp[intOf];omega
    ·have hne:(bits BinOp.and .i64 (r k:Int) (s:Int) !=0)=true:=by rw[E2,bne_iff_ne];omega
     have hno:Hid (indB r s=false):=indB_no (by omega) ht hz;clear ht hz E2;go_wp2;go_ret;exact⟨ret_bool hno.symm,HB.below⟩
  ·have hyes:Hid (indB r s=true):=indB_yes fun v hv hb=>hall.out v (by have:=bit_lt hs hb;omega) hb
   have i1:(m:Int)<=k:=by omega
   go_wp2;go_ret;exact⟨ret_bool hyes.symm,HB.below⟩
end
set_option maxHeartbeats 1600000
def stN:List Int->Nat
 | []=>0
 |v::l=>2^v.toNat|||stN l
theorem stN_bit {l:List Int} {u:Nat} (h: ∀v∈l,0<=v):(stN l).testBit u=true↔(u:Int)∈l:=by
 induction l with
 |nil=>simp[stN]
 |cons v l ih=>
  rw[stN,Nat.testBit_or,Nat.testBit_two_pow,Bool.or_eq_true,ih (fun v hv=>h v (by simp[hv])),List.mem_cons,decide_eq_true_eq];have:=h v (by simp);constructor
  ·rintro(h1|h1)
   ·left;omega
   ·exact .inr h1
  ·rintro(h1|h1)
   ·left;omega
   ·exact .inr h1
theorem stN_lt {l:List Int} {m:Nat} (h: ∀v∈l,0<=v/\v<(m:Int)):stN l<2^m:=by
 induction l with
 |nil=>exact Nat.two_pow_pos m
 |cons v l ih=>
  have:=h v (by simp);exact Nat.or_lt_two_pow (Nat.pow_lt_pow_right (by omega) (by omega)) (ih (fun v hv=>h v (by simp[hv])))
theorem stN_append (l k:List Int):stN (l++k)=stN l|||stN k:=by
 induction l with
 |nil=>simp[stN]
 |cons v l ih=>rw[List.cons_append,stN,stN,ih,Nat.or_assoc]
theorem or_of_add {a u:Nat} (h:a.testBit u=false):a+2^u=a|||2^u:=by
 rw[add_pow_bit h];apply Nat.eq_of_testBit_eq;intro i;rw[Nat.testBit_or,Nat.testBit_xor,Nat.testBit_two_pow];by_cases hi:u=i
 ·subst hi;simp[h]
 ·simp[hi]
theorem take_snocz {l:List Int} {k:Nat} (hk:k<l.length):l.take (k+1)=l.take k++ [l.getD k 0]:=by
 have e:l.getD k 0=l[k]:=by simp[List.getD,hk]
 rw[e,List.take_succ_eq_append_getElem hk]
theorem stN_take {l:List Int} {k:Nat} (hk:k<l.length):stN (l.take (k+1))=stN (l.take k)|||2^(l.getD k 0).toNat:=by
 rw[take_snocz hk,stN_append];simp[stN]
noncomputable def soN (l:List Int):Int:=if vzB 7 l=true then (stN l:Int) else 0
theorem soN_yes {l:List Int} (h:vzB 7 l=true):soN l=(stN l:Int):=by unfold soN;rw[if_pos h]
theorem soN_no {l:List Int} (h:vzB 7 l=false):soN l=0:=by unfold soN;rw[h];rfl
theorem VZ.step {m:Nat} {l:List Int} {k:Nat} (hk:k<l.length) (h:VZ m (l.take k)) (h0:0<=l.getD k 0) (h1:l.getD k 0<m) (hn:l.getD k 0∉l.take k):VZ m (l.take (k+1)):=by
 refine⟨nodupz_take hk h.1 hn,fun v hv=> ?_⟩;rw[take_snocz hk,List.mem_append,List.mem_singleton] at hv;rcases hv with hv|rfl
 ·exact h.2 v hv
 ·exact⟨h0,h1⟩
theorem SetOf_s (Al:Option Addr) (n cl:Nat) (l:List Int) (w:World) (hl:LI w Al n cl l) (hn:n<=1048576):
 Calls Tryz.prog 337 #[.slice Al n cl] w fun e w'=>e=.returned (.tuple #[.int .i64 (soN l),.bool (vzB 7 l)])/\w=w':=by
 have HL:=hh_ hl;have HN:=hh_ hl.len;clear hl;go_enter Tryz.func337,Tryz.ntmps337;go_wp2;go_loop [4,5] (fun s i=> ∃k:Nat,k<=n/\i=.int .i64 k/\s=.int .i64 (stN (l.take k):Nat)/\Hid (VZ 7 (l.take k))) (fun _ i=>n-(intOf i).toNat);case atStart=>exact⟨0,Nat.zero_le _,rfl,rfl,List.nodup_nil,fun v hv=>by cases hv⟩
 case round=>
  obtain⟨k,hk,rfl,rfl,hall⟩:=hrel;by_cases hlt:k<n
  ·have hkl:k<l.length:=by rw[<-HN.out];exact hlt
   obtain⟨b,o,rfl⟩:=HL.addr (by omega);have q0:=HL.at hlt;have hmem:=getD_mem hkl;have hst:=stN_take hkl;have hs7:=stN_lt hall.out.2;obtain⟨u,hu⟩: ∃u:Int,u=l.getD k 0:=⟨_,rfl⟩;rw[<-hu] at q0 hmem hst;have i1:(k:Int)<n:=by omega
   by_cases hr:0<=u/\u<7
   ·obtain⟨r1,r2⟩:=hr;obtain⟨v,rfl⟩:=Int.eq_ofNat_of_zero_le r1;rw[Int.toNat_natCast] at hst;have hv7:2^v<2^7:=Nat.pow_lt_pow_right (by omega) (by omega);have E1:=and_one_i64 (stN (l.take k):Int) v (by omega) (by omega);rw[Int.toNat_natCast] at E1;have p1:=pow_shl v (by omega);have hpc:=pow_cast v;cases ht:(stN (l.take k)).testBit v
    ·have hnin:(v:Int)∉l.take k:=fun h=>by rw[(stN_bit (fun v hv=>(hall.out.2 v hv).1)).2 h] at ht;cases ht
     have hyes:Hid (VZ 7 (l.take (k+1))):=hall.step hkl (by rw[<-hu];exact r1) (by rw[<-hu];exact r2) (by rw[<-hu];exact hnin);have E2:wrap64 ((stN (l.take k):Int)+2^v)=(stN (l.take (k+1)):Int):=by
      have e:(stN (l.take k):Int)+2^v=(stN (l.take (k+1)):Int):=by rw[hst,<-or_of_add ht];simp
      rw[Go.IntWalk.wrap64_in _ (by omega),e]
     rw[ht] at E1;clear ht hnin hst hu hmem hpc;go_wp2_with (first|(go_at_call 68;refine(l1In_yes _ _ _ _ r1 (by omega)).mono ?_;rintro e w' ⟨rfl,rfl⟩))
     go_round;case rel=>exact⟨k+1,by omega,by go_num,congrArg (Value.int .i64) E2,hyes⟩
     case measure=>simp[intOf];omega
    ·have hin:(v:Int)∈l.take k:=(stN_bit (fun v hv=>(hall.out.2 v hv).1)).1 ht;have hno:Hid (vzB 7 l=false):=vzB_no fun h=>not_nodupz hkl (by rw[<-hu];exact hin) h.1
     have hz:Hid (soN l=0):=soN_no hno.out;rw[ht] at E1;clear ht hin hst hu hmem hpc;go_wp2_with (first|(go_at_call 68;refine(l1In_yes _ _ _ _ r1 (by omega)).mono ?_;rintro e w' ⟨rfl,rfl⟩))
     go_ret2;exact⟨by rw[hno.out,hz.out];rfl,rfl⟩
   ·have hno:Hid (vzB 7 l=false):=vzB_no fun h=>hr (h.2 u hmem)
    have hz:Hid (soN l=0):=soN_no hno.out;have hr':Hid (u<0\/6<u):=by show _\/_;omega
    clear hr hst hu hmem;go_wp2_with (first|(go_at_call 68;refine(l1In_no _ _ _ _ hr'.out).mono ?_;rintro e w' ⟨rfl,rfl⟩))
    go_ret2;exact⟨by rw[hno.out,hz.out];rfl,rfl⟩
  ·have hyes:Hid (vzB 7 l=true):=by
    refine vzB_yes ?_;have:=hall.out;rwa [List.take_of_length_le (by rw[<-HN.out];omega)] at this
   have he:Hid (l.take k=l):=List.take_of_length_le (by rw[<-HN.out];omega);have hz:Hid (soN l=(stN l:Int)):=soN_yes hyes.out;have i1:(n:Int)<=k:=by omega
   go_wp2;go_ret2;exact⟨by rw[hyes.out,hz.out];simp only[he.out];rfl,rfl⟩
noncomputable def orB (sz:Int) (m:Nat) (x:Nat->Int) (l:List Int):Bool:=vrB sz m x l&&decide (l.length=m)
theorem IsSet_s (sz:Int) (A:Option Addr) (m c:Nat) (x:Nat->Int) (s:Nat) (w:World) (h:GA w A m c x) (ho:okB sz m x=true):
 Calls Tryz.prog 227 #[.agg #[.int .i64 sz,.slice A m c],.int .i64 s] w fun e w'=>e=.returned (.bool (decide (s<2^m)))/\Below w.heap.size w w':=by
 obtain⟨_,es,vg0,_⟩:=okB_ok' ho;subst es;have hn7:=vg0.n7;have p1:=pow_shl m hn7;have hpc:=pow_cast m;have HV:=hh_ (h.gv ho);clear ho vg0;have h:=HV.out;obtain⟨r,hr⟩: ∃r,r=rw_ x:=⟨_,rfl⟩;rw[<-hr] at h;obtain⟨W,hW,HB,HG⟩:=gbW h;have HW:=hh_ hW;clear hW h;obtain⟨e0,e1⟩:=gx_ HG;by_cases hlt:s<2^m
 ·rw[decide_eq_true hlt];have i1:(s:Int)<2^m:=by omega
  clear hlt;go_enter Tryz.func227,Tryz.ntmps227;go_wp2_with fail
  rw[<-HW.out];refine(IsGraph_sv HG.gv).mono ?_;rintro e w1 ⟨rfl,hb1⟩;clear HW;clear e0 e1;obtain⟨HB,HG,e0,e1⟩:=kG_ HB HG hb1;clear hb1;go_wp2;go_ret;exact⟨rfl,HB.below⟩
 ·rw[decide_eq_false hlt];have i1:(2:Int)^m<=(s:Int):=by omega
  clear hlt;go_enter Tryz.func227,Tryz.ntmps227;go_wp2_with fail
  rw[<-HW.out];refine(IsGraph_sv HG.gv).mono ?_;rintro e w2 ⟨rfl,hb2⟩;clear HW;clear e0 e1;obtain⟨HB,HG,e0,e1⟩:=kG_ HB HG hb2;clear hb2;go_wp2;go_ret;exact⟨ret_bool (decide_eq_false (by omega)),HB.below⟩
theorem l4Distinct_z (sz:Int) (A:Option Addr) (m c:Nat) (x:Nat->Int) (Al:Option Addr) (n cl:Nat) (l:List Int) (w:World) (h:GA w A m c x) (hl:LI w Al n cl l) (hm:m<=1048576) (hn:n<=1048576):
 Calls Tryz.prog 327 #[.agg #[.int .i64 sz,.slice A m c],.slice Al n cl] w fun e w'=>e=.returned (.bool (vrB sz m x l))/\Below w.heap.size w w':=by
 obtain⟨W,hW⟩: ∃W,W=(w.alloc (Obj.cells #[.int .i64 sz,.slice A m c] 26)):=⟨_,rfl⟩;have HB:Hid (From w W):=by rw[hW];exact From.alloc _ _
 have HK:=hh_ (h.keep HB.below);have HL:=hh_ (hl.keep HB.below);have HC:Hid (GC W w.heap.size sz A m c):=by rw[hW];exact GC.new _ _ _ _ _
 have HW:=hh_ hW;clear hW h hl;go_enter Tryz.func327,Tryz.ntmps327;go_wp2_with fail
 rw[<-HW.out];clear HW;refine(SetOf_s Al n cl l W HL.out hn).mono ?_;rintro e w' ⟨rfl,rfl⟩;obtain⟨e0,e1⟩:=gc_ HC;go_wp2_with fail
 refine(IsGraph_sany sz A m c x W W.heap.size HK.rd nr_ hm).mono ?_;rintro e w1 ⟨rfl,hb1⟩;clear e0 e1;obtain⟨HB,HK,HC,e0,e1⟩:=kC_ HB HK HC hb1;clear hb1;cases ho:okB sz m x
 ·have hno:Hid (vrB sz m x l=false):=vrB_bad ho;clear ho;go_wp2;go_ret;exact⟨ret_bool hno.symm,HB.below⟩
 ·have hv:Hid (vrB sz m x l=vzB m l):=vrB_ok ho;obtain⟨_,es,vg0,_⟩:=okB_ok' ho;subst es;have hn7:=vg0.n7;have Ho:=hh_ ho;clear ho vg0;cases h7:vzB 7 l
  ·have hno:Hid (vzB m l=false):=vzB_no fun h=>by
    rw[vzB_yes ⟨h.1,fun v hv=>by have:=h.2 v hv;omega⟩] at h7;cases h7
   clear h7;go_wp2;go_ret;exact⟨ret_bool (by rw[hv.out,hno.out]),HB.below⟩
  ·have hz:Hid (soN l=(stN l:Int)):=soN_yes h7;have hV:=vzB_iff.1 h7;have hlt:=stN_lt hV.2;have hd:Hid (decide (stN l<2^m)=vrB (m:Int) m x l):=by
    show _=_;rw[hv.out];by_cases h:VZ m l
    ·rw[vzB_yes h,decide_eq_true (stN_lt h.2)]
    ·rw[vzB_no h,decide_eq_false];intro hs;refine h ⟨hV.1,fun v hv=> ?_⟩;have h0:=(hV.2 v hv).1;obtain⟨u,rfl⟩:=Int.eq_ofNat_of_zero_le h0;have:=bit_lt hs ((stN_bit (fun v hv=>(hV.2 v hv).1)).2 hv);omega
   rw[hz.out];obtain⟨S,hS⟩: ∃S,S=stN l:=⟨_,rfl⟩;rw[<-hS] at hd ⊢;clear h7 hV hlt hz hS;go_wp2_with fail
   refine(IsSet_s (m:Int) A m c x S _ HK Ho.out).mono ?_;rintro e w2 ⟨rfl,hb2⟩;clear e0 e1;obtain⟨HB,HK,HC,e0,e1⟩:=kC_ HB HK HC hb2;clear hb2;go_wp2;go_ret;exact⟨ret_bool hd.out,HB.below⟩
theorem IsOrder_sz (sz:Int) (A:Option Addr) (m c:Nat) (x:Nat->Int) (Al:Option Addr) (n cl:Nat) (l:List Int) (w:World) (h:GA w A m c x) (hl:LI w Al n cl l) (hm:m<=1048576) (hn:n<=1048576):
 Calls Tryz.prog 335 #[.agg #[.int .i64 sz,.slice A m c],.slice Al n cl] w fun e w'=>e=.returned (.bool (orB sz m x l))/\Below w.heap.size w w':=by
 obtain⟨W,hW⟩: ∃W,W=(w.alloc (Obj.cells #[.int .i64 sz,.slice A m c] 26)):=⟨_,rfl⟩;have HB:Hid (From w W):=by rw[hW];exact From.alloc _ _
 have HK:=hh_ (h.keep HB.below);have HL:=hh_ (hl.keep HB.below);have HC:Hid (GC W w.heap.size sz A m c):=by rw[hW];exact GC.new _ _ _ _ _
 have HW:=hh_ hW;have HN:=hh_ hl.len;clear hW h hl;go_enter Tryz.func335,Tryz.ntmps335;obtain⟨e0,e1⟩:=gc_ HC;go_wp2_with fail
 rw[<-HW.out];refine(l4Distinct_z sz A m c x Al n cl l W HK HL.out hm hn).mono ?_;rintro e w1 ⟨rfl,hb1⟩;clear HW;clear e0 e1;replace HB:=hh_ (HB.keep hb1);replace HK:=hh_ (HK.keep hb1);replace HL:=hh_ (HL.keep hb1);replace HC:=hh_ (HC.keep hb1);clear hb1;obtain⟨e0,e1⟩:=gc_ HC;cases hv:vrB sz m x l
 ·have hno:Hid (orB sz m x l=false):=by show _=_;unfold orB;rw[hv];rfl
  clear hv;go_wp2;go_ret;exact⟨ret_bool hno.symm,HB.below⟩
 ·have hd:Hid (decide ((n:Int)=sz)=orB sz m x l):=by
   show _=_;unfold orB;rw[hv,Bool.true_and];have ho:okB sz m x=true:=by
    cases h:okB sz m x
    ·rw[vrB_bad h] at hv;cases hv
    ·rfl
   obtain⟨_,es,_⟩:=okB_ok' ho;rw[decide_eq_decide,es,<-HN.out];omega
  clear hv;go_wp2;go_ret;exact⟨ret_bool (by rw[<-hd.out,Bool.eq_iff_iff];simp),HB.below⟩
theorem LN.li {w:World} {A:Option Addr} {c:Nat} {l:List Nat} (h:LN w A c l):LI w A l.length c (l.map fun v:Nat=>(v:Int)):=
 ⟨by simp,h.rd.congr fun k hk=>by simp[List.getD,hk]⟩
section
variable {fn:FuncId} {caps:Array Value} {p:Int->Bool}
end
set_option maxHeartbeats 1000000
def vxB (v:Int):Bool:=decide (0<=v)&&decide (v<=6)
theorem vxB_yes {v:Int} (h:vxB v=true):0<=v/\v<=6:=by
 unfold vxB at h;simpa using h
theorem vxB_no {v:Int} (h:vxB v=false):v<0\/6<v:=by
 unfold vxB at h;simp only[Bool.and_eq_false_iff,decide_eq_false_iff_not] at h;omega
theorem within_v (v:Int) (w:World):Calls Tryz.prog 60 #[.int .i64 v,.int .i64 0,.int .i64 6] w fun e w'=>e=.returned (.bool (vxB v))/\Below w.heap.size w w':=
 (within_any v 0 6 w).mono fun _ _ ⟨h1,h2⟩=>⟨h1,h2▸br_⟩
theorem l1In_v (v:Int) (w:World):Calls Tryz.prog 68 #[.int .i64 v,.int .i64 0,.int .i64 6] w fun e w'=>e=.returned (.bool (vxB v))/\Below w.heap.size w w':=by
 cases hv:vxB v
 ·exact(l1In_no v 0 6 w (vxB_no hv)).mono fun _ _ ⟨h1,h2⟩=>⟨h1,h2▸br_⟩
 ·exact(l1In_yes v 0 6 w (vxB_yes hv).1 (vxB_yes hv).2).mono fun _ _ ⟨h1,h2⟩=>⟨h1,h2▸br_⟩
def exB (v u:Int):Bool:=vxB v&&vxB u
theorem FormatEditsF (a:Bool) (v u:Int) (w:World):Calls Tryz.prog 59 #[.agg #[.bool a,.int .i64 v,.int .i64 u]] w fun e w'=>e=.returned (.bool (!exB v u))/\Below w.heap.size w w':=by
 obtain⟨W,hW⟩: ∃W,W=w.alloc (Obj.cells #[.bool a,.int .i64 v,.int .i64 u] 48):=⟨_,rfl⟩;have HB:Hid (Below w.heap.size w W):=by rw[hW];exact br_.alloc nr_ _
 have hz:w.heap.size<W.heap.size:=by rw[hW];simp
 have e1:W.cell? ⟨w.heap.size,1,none⟩=some (.int .i64 v):=by rw[hW];simp[go_sem]
 have e2:W.cell? ⟨w.heap.size,2,none⟩=some (.int .i64 u):=by rw[hW];simp[go_sem]
 have HW:=hh_ hW;clear hW;have K1:=hh_ (within_v v W);cases h1:vxB v
 ·rw[h1] at K1;have HE:Hid (exB v u=false):=by show _=_;unfold exB;rw[h1];rfl
  clear h1;go_enter Tryz.func59,Tryz.ntmps59;go_wp2_with fail
  rw[<-HW.out];clear HW;refine K1.mono ?_;rintro e w1 ⟨rfl,hb1⟩;have HB1:=hh_ (HB.trans (hb1.mono (by omega)));clear hb1;go_wp2;go_ret;exact⟨by rw[HE.out];rfl,HB1⟩
 ·rw[h1] at K1;have HE:Hid (exB v u=vxB u):=by show _=_;unfold exB;rw[h1];rfl
  clear h1;go_enter Tryz.func59,Tryz.ntmps59;go_wp2_with fail
  rw[<-HW.out];clear HW;refine K1.mono ?_;rintro e w1 ⟨rfl,hb1⟩;have HB1:=hh_ (HB.trans (hb1.mono (by omega)));have f2:w1.cell? ⟨w.heap.size,2,none⟩=some (.int .i64 u):=(hb1.cell (p:=⟨w.heap.size,2,none⟩) hz).trans e2;have hz1:=hb1.size;clear hb1 e1 e2;go_wp2_with fail
  refine(within_v u w1).mono ?_;rintro e w2 ⟨rfl,hb2⟩;have HB2:=hh_ (HB1.trans (hb2.mono (by omega)));clear hb2;go_wp2;go_ret;exact⟨by rw[HE.out];rfl,HB2⟩
def exP (v u:Nat->Int) (n:Nat):Int:=fIdx (fun j=> !exB (v j) (u j)) n
theorem IndexFunc_e (A:Option Addr) (n c:Nat) (a:Nat->Bool) (v u:Nat->Int) (w:World) (h:RdE w w.heap.size A n c a v u) (hn:n<=1048577):
 Calls Tryz.prog 116 #[.slice A n c,.func (.func 59) #[] #[]] w fun e w'=>e=.returned (.int .i64 (exP v u n))/\Below w.heap.size w w':=by
 have HL:=hh_ h;clear h;go_enter Tryz.func116,Tryz.ntmps116;go_wp2;go_loopw [8] (fun i wr=> ∃k:Nat,k<=n/\i=.int .i64 k/\Hid (∀j,j<k->(!exB (v j) (u j))=false)/\Hid (Below w.heap.size w wr)) (fun i _=>n-(intOf i).toNat);case atStart=>exact⟨0,Nat.zero_le _,rfl,(fun j hj=>absurd hj (by omega)),br_⟩
 case round=>
  obtain⟨k,hk,rfl,hall,hbr⟩:=hrel;have zr:=hbr.size;by_cases hlt:k<n
  ·obtain⟨b,o,rfl,hb,hc⟩:=(HL.keep hbr.out nr_).2 (by omega);obtain⟨q0,q1,q2⟩:=hc k hlt;have K1:=hh_ (FormatEditsF (a k) (v k) (u k) wr);have i1:(k:Int)<n:=by omega
   clear hc;cases hp:exB (v k) (u k)
   ·rw[hp] at K1;have Hi:Hid (exP v u n=k):=fIdx_yes hlt (by rw[hp];rfl) hall.out;clear hp;go_wp2_with fail
    refine K1.mono ?_;rintro e w3 ⟨rfl,hb3⟩;have HB3:Hid (Below w.heap.size w w3):=hbr.trans (hb3.mono zr);clear hb3 hbr q0 q1 q2;go_wp2;go_ret;exact⟨ret_int Hi.symm,HB3⟩
   ·rw[hp] at K1;have Hp:Hid ((!exB (v k) (u k))=false):=by show _=_;rw[hp];rfl
    clear hp;go_wp2_with fail
    refine K1.mono ?_;rintro e w3 ⟨rfl,hb3⟩;have HB3:Hid (Below w.heap.size w w3):=hbr.trans (hb3.mono zr);clear hb3 hbr q0 q1 q2;go_wp2;go_roundw;case rel=>
     refine⟨k+1,by omega,by go_num,fun j hj=> ?_,HB3⟩;by_cases hjk:j<k
     ·exact hall.out j hjk
     ·obtain rfl:j=k:=by omega
      exact Hp.out
    case measure=>simp[intOf];omega
  ·have Hi:Hid (exP v u n= -1):=fIdx_no fun j hj=>hall.out j (by omega)
   have i1:(n:Int)<=k:=by omega
   go_wp2;go_ret;exact⟨ret_int Hi.symm,hbr.out⟩
theorem ContainsFunc_e (A:Option Addr) (n c:Nat) (a:Nat->Bool) (v u:Nat->Int) (w:World) (h:RdE w w.heap.size A n c a v u) (hn:n<=1048577):
 Calls Tryz.prog 58 #[.slice A n c,.func (.func 59) #[] #[]] w fun e w'=>e=.returned (.bool (decide (0<=exP v u n)))/\Below w.heap.size w w':=by
 have K:=hh_ (IndexFunc_e A n c a v u w h hn);clear h;obtain⟨t,ht⟩: ∃t,t=exP v u n:=⟨_,rfl⟩;rw[<-ht] at K ⊢;clear ht;go_enter Tryz.func58,Tryz.ntmps58;go_wp2_with fail
 refine K.mono ?_;rintro e w1 ⟨rfl,hb1⟩;have HB:=hh_ hb1;clear hb1;go_wp2;go_ret;exact⟨rfl,HB⟩
theorem dataApp (a b:ByteArray):(a++b).data.toList=a.data.toList++b.data.toList:=by simp
theorem join_snoc (xs:List (List UInt8)) (y sep:List UInt8) (h:xs≠ []):Lib.join (xs++ [y]) sep=Lib.join xs sep++(sep++y):=by
 cases xs with
 |nil=>exact absurd rfl h
 |cons x r=>
  rw[List.cons_append,Lib.join_cons,Lib.join_cons];simp[Lib.joinTail,List.append_assoc]
def dvB (v:Int):ByteArray:=dgB v.toNat
def sgn (a:Bool):ByteArray:=if a then ⟨#[43]⟩ else ⟨#[45]⟩
def fmJ (a:Nat->Bool) (v u:Nat->Int):Nat->ByteArray
 |0=>⟨#[]⟩
 |k+1=>(if k=0 then fmJ a v u k else fmJ a v u k++⟨#[44]⟩)++sgn (a k)++dvB (v k)++dvB (u k)
def fmO (n:Nat) (a:Nat->Bool) (v u:Nat->Int):ByteArray:=if 12<n\/0<=exP v u n then ⟨#[]⟩ else if n=0 then ⟨#[110,111,110,101]⟩ else fmJ a v u n
theorem FormatInt_sv (v:Int) (hv:vxB v=true) (w:World):Calls Tryz.prog 69 #[.int .i64 v] w fun e w'=>e=.returned (.string (dvB v))/\Below w.heap.size w w':=by
 obtain⟨h0,h1⟩:=vxB_yes hv;obtain⟨d,rfl⟩: ∃d:Nat,v=d:=⟨v.toNat,by omega⟩;exact FormatInt_s1 d (by omega) w
theorem exP_bad {v u:Nat->Int} {n k:Nat} (hk:k<n) (h:exB (v k) (u k)=false):0<=exP v u n:=by
 unfold exP fIdx;cases e:(List.range n).find? (fun j=> !exB (v j) (u j)) with
 |some j=>show (0:Int)<=j;omega
 |none=>
  rw[List.find?_eq_none] at e;have:=e k (List.mem_range.2 hk);rw[h] at this;simp at this
theorem exP_good {v u:Nat->Int} {n:Nat} (h: ∀j,j<n->exB (v j) (u j)=true):exP v u n<0:=by
 have:exP v u n= -1:=fIdx_no fun j hj=>by rw[h j hj];rfl
 omega
theorem exP_all {v u:Nat->Int} {n:Nat} (h:exP v u n<0): ∀j,j<n->exB (v j) (u j)=true:=by
 intro j hj;cases e:exB (v j) (u j)
 ·exact absurd (exP_bad hj e) (by omega)
 ·rfl
theorem exB_two {v u:Int} (h:exB v u=true):vxB v=true/\vxB u=true:=by
 unfold exB at h;simpa using h
theorem fmO_many {n:Nat} {a:Nat->Bool} {v u:Nat->Int} (h:12<n):fmO n a v u=⟨#[]⟩:=by unfold fmO;rw[if_pos (.inl h)]
theorem fmO_bad {n k:Nat} {a:Nat->Bool} {v u:Nat->Int} (hk:k<n) (h:exB (v k) (u k)=false):fmO n a v u=⟨#[]⟩:=by unfold fmO;rw[if_pos (.inr (exP_bad hk h))]
theorem fmO_none {a:Nat->Bool} {v u:Nat->Int}:fmO 0 a v u=⟨#[110,111,110,101]⟩:=by
 unfold fmO;have:=exP_good (v:=v) (u:=u) (n:=0) fun j hj=>absurd hj (by omega)
 rw[if_neg (by omega),if_pos rfl]
theorem fmO_yes {n:Nat} {a:Nat->Bool} {v u:Nat->Int} (h0:0<n) (h12:n<=12) (h: ∀j,j<n->exB (v j) (u j)=true):fmO n a v u=fmJ a v u n:=by
 have:=exP_good h;unfold fmO;rw[if_neg (by omega),if_neg (by omega)]
theorem fmJ_one (a:Nat->Bool) (v u:Nat->Int) {k:Nat} (h:k=0):fmJ a v u (k+1)=fmJ a v u k++sgn (a k)++dvB (v k)++dvB (u k):=by
 show (if k=0 then _ else _)++_++_++_=_;rw[if_pos h]
theorem fmJ_more (a:Nat->Bool) (v u:Nat->Int) {k:Nat} (h:k≠0):fmJ a v u (k+1)=fmJ a v u k++⟨#[44]⟩++sgn (a k)++dvB (v k)++dvB (u k):=by
 show (if k=0 then _ else _)++_++_++_=_;rw[if_neg h]
theorem dvB_size (v:Int):(dvB v).size=1:=rfl
theorem sgn_size (a:Bool):(sgn a).size=1:=by cases a<;>rfl
theorem fmJ_size (a:Nat->Bool) (v u:Nat->Int): ∀k,(fmJ a v u k).size<=4*k
 |0=>nr_
 |k+1=>by
  have ih:=fmJ_size a v u k
  by_cases h:k=0
  ·rw[fmJ_one a v u h]
   simp only[ByteArray.size_append,dvB_size,sgn_size];omega
  ·rw[fmJ_more a v u h]
   simp only[ByteArray.size_append,dvB_size,sgn_size,show (⟨#[44]⟩:ByteArray).size=1 from rfl];omega
theorem fmJ_some (a:Nat->Bool) (v u:Nat->Int) {k:Nat} (h:0<k):0<(fmJ a v u k).size:=by
 obtain⟨j,rfl⟩: ∃j,k=j+1:=⟨k-1,by omega⟩;by_cases h:j=0
 ·rw[fmJ_one a v u h];simp only[ByteArray.size_append,dvB_size,sgn_size];omega
 ·rw[fmJ_more a v u h];simp only[ByteArray.size_append,dvB_size,sgn_size];omega
structure RE (w:World) (A:Option Addr) (n c:Nat) (a:Nat->Bool) (v u:Nat->Int):Prop where
 rd:RdE w w.heap.size A n c a v u
theorem RE.keep {w w':World} {A:Option Addr} {n c:Nat} {a:Nat->Bool} {v u:Nat->Int} (h:RE w A n c a v u) (hb:Below w.heap.size w w'):RE w' A n c a v u:=⟨h.rd.keep hb hb.size⟩
theorem fmO_size {n:Nat} {a:Nat->Bool} {v u:Nat->Int}:(fmO n a v u).size<=48:=by
 unfold fmO;split
 ·exact Nat.zero_le _
 ·split
  ·decide
  ·have:=fmJ_size a v u n;omega
set_option maxHeartbeats 3200000
set_option maxRecDepth 100000 in
theorem FormatEdits_s (A:Option Addr) (n c:Nat) (a:Nat->Bool) (v u:Nat->Int) (w:World) (h:RE w A n c a v u) (hn:n<=1048577):
 Calls Tryz.prog 27 #[.slice A n c] w fun e w'=>e=.returned (.string (fmO n a v u))/\Below w.heap.size w w':=by
 have HL:=hh_ h;clear h;go_enter Tryz.func27,Tryz.ntmps27;go_wp2;go_loopw [3,4] (fun s i wr=> ∃(k:Nat) (S:ByteArray),k<=n/\s=.string S/\i=.int .i64 k/\(k≠0->n<=12)/\Hid (S=fmJ a v u k)/\Hid (∀j,j<k->exB (v j) (u j)=true)/\Hid (From w wr)) (fun _ i _=>n-(intOf i).toNat);case atStart=>exact⟨0,_,Nat.zero_le _,rfl,rfl,by omega,rfl,(fun j hj=>absurd hj (by omega)),From.refl _⟩
 case round=>
  obtain⟨k,S,hk,rfl,rfl,h12,HS,hall,HB⟩:=hrel;by_cases hlt:k<n
  ·have i1:(k:Int)<n:=by omega
   by_cases hm:12<n
   ·have i2:(12:Int)<n:=by omega
    have Ho:Hid (fmO n a v u=⟨#[]⟩):=fmO_many hm;go_wp2;go_ret;exact⟨by rw[Ho.out];rfl,HB.below⟩
   have i2:(n:Int)<=12:=by omega
   have hs:S.size<=48:=by
    have:=fmJ_size a v u k;rw[HS.out];omega
   have HR:Hid (RE wr A n c a v u):=HL.keep HB.below;obtain⟨b,o,rfl,hb,hc⟩:=HR.rd.2 (by omega);obtain⟨q0,q1,q2⟩:=hc k hlt;clear hc HR;have Hb:=hh_ hb;have Hva:Hid (exB (v k) (u k)=(vxB (v k)&&vxB (u k))):=rfl;have Hbad:Hid (exB (v k) (u k)=false->fmO n a v u=⟨#[]⟩):=fmO_bad hlt;have Hgo:Hid (exB (v k) (u k)=true-> ∀j,j<k+1->exB (v j) (u j)=true):=fun h j hj=>by
    by_cases hjk:j<k
    ·exact hall.out j hjk
    ·obtain rfl:j=k:=by omega
     exact h
   obtain⟨p,hp⟩: ∃p,p=exB (v k) (u k):=⟨_,rfl⟩;rw[<-hp] at Hva Hbad Hgo;have H1:Hid (k=0->fmJ a v u (k+1)=S++sgn (a k)++dvB (v k)++dvB (u k)):=fun h=>by rw[fmJ_one a v u h,HS.out]
   have H2:Hid (k≠0->fmJ a v u (k+1)=S++⟨#[44]⟩++sgn (a k)++dvB (v k)++dvB (u k)):=fun h=>by rw[fmJ_more a v u h,HS.out]
   obtain⟨x,hx⟩: ∃x,x=a k:=⟨_,rfl⟩;obtain⟨y,hy⟩: ∃y,y=v k:=⟨_,rfl⟩;obtain⟨t,ht⟩: ∃t,t=u k:=⟨_,rfl⟩;rw[<-hx] at q0;rw[<-hy] at q1;rw[<-ht] at q2;rw[<-hx,<-hy,<-ht] at H1 H2;rw[<-hy,<-ht] at Hva;have KV:Hid (∀z:World,_):=fun z=>l1In_v y z
   have KU:Hid (∀w:World,_):=fun w=>l1In_v t w
   have FV:Hid (vxB y=true-> ∀z:World,_):=fun h z=>FormatInt_sv y h z
   have FU:Hid (vxB t=true-> ∀w:World,_):=fun h w=>FormatInt_sv t h w
   clear hx hy ht hp HS hall;cases hv:vxB y
   ·rw[hv] at KV;have Hf:=hh_ (Hbad.out (by rw[Hva.out,hv];rfl));clear hv;go_wp2_with fail
    refine(KV.out wr).mono ?_;rintro e w1 ⟨rfl,hb1⟩;have HB1:=hh_ (HB.keep hb1);clear hb1;go_wp2;go_ret;exact⟨by rw[Hf.out];rfl,HB1.below⟩
   ·rw[hv] at KV;have FV':=hh_ (FV.out hv);have Hv':Hid (vxB y=true):=hv;clear hv;cases hu:vxB t
    ·rw[hu] at KU;have Hf:=hh_ (Hbad.out (by rw[Hva.out,Hv'.out,hu];rfl));clear hu;go_wp2_with fail
     refine(KV.out wr).mono ?_;rintro e w1 ⟨rfl,hb1⟩;have HB1:=hh_ (HB.keep hb1);have m2:=(hb1.cell (p:=⟨b,o+k*3+2,none⟩) Hb.out).trans q2;clear hb1 q0 q1 q2;go_wp2_with fail
     refine(KU.out w1).mono ?_;rintro e w2 ⟨rfl,hb2⟩;have HB2:=hh_ (HB1.keep hb2);clear hb2;go_wp2;go_ret;exact⟨by rw[Hf.out];rfl,HB2.below⟩
    ·rw[hu] at KU;have FU':=hh_ (FU.out hu);have Hg:=hh_ (Hgo.out (by rw[Hva.out,Hv'.out,hu];rfl));clear hu FV FU Hbad Hgo Hva Hv';go_wp2_with fail
     refine(KV.out wr).mono ?_;rintro e w1 ⟨rfl,hb1⟩;have HB1:=hh_ (HB.keep hb1);have m0:=(hb1.cell (p:=⟨b,o+k*3,none⟩) Hb.out).trans q0;have m1:=(hb1.cell (p:=⟨b,o+k*3+1,none⟩) Hb.out).trans q1;have m2:=(hb1.cell (p:=⟨b,o+k*3+2,none⟩) Hb.out).trans q2;have hz1:=hb1.size;clear hb1 q0 q1 q2;go_wp2_with fail
     refine(KU.out w1).mono ?_;rintro e w2 ⟨rfl,hb2⟩;have HB2:=hh_ (HB1.keep hb2);have r0:=(hb2.cell (p:=⟨b,o+k*3,none⟩) (by show b<_;omega)).trans m0;have r1:=(hb2.cell (p:=⟨b,o+k*3+1,none⟩) (by show b<_;omega)).trans m1;have r2:=(hb2.cell (p:=⟨b,o+k*3+2,none⟩) (by show b<_;omega)).trans m2;have hz2:=hb2.size;have hsy:=dvB_size y;have hst:=dvB_size t;obtain⟨D1,hD1⟩: ∃D,D=dvB y:=⟨_,rfl⟩;obtain⟨D2,hD2⟩: ∃D,D=dvB t:=⟨_,rfl⟩;rw[<-hD1] at hsy FV' H1 H2;rw[<-hD2] at hst FU' H1 H2;clear hD1 hD2;have hb':b<w2.heap.size:=by omega
     clear hb2 m0 m1 m2 HB HB1;by_cases h0:k=0
     ·have i3:(k:Int)<=0:=by omega
      have H3:=hh_ (H1.out h0);clear H1 H2 h0;cases x
      ·go_wp2;have h7: ¬9223372036854775807<(S++⟨#[45]⟩).size+D1.size:=by simp only[ByteArray.size_append,show∀x:UInt8,(⟨#[x]⟩:ByteArray).size=1 from fun _=>rfl];omega
       have h14: ¬9223372036854775807<(S++⟨#[45]⟩).size+D1.size+D2.size:=by simp only[ByteArray.size_append,show∀x:UInt8,(⟨#[x]⟩:ByteArray).size=1 from fun _=>rfl];omega
       obtain⟨S1,hS1⟩: ∃S1,S1=S++(⟨#[45]⟩:ByteArray):=⟨_,rfl⟩;rw[<-hS1] at h7 h14 ⊢;have H4:Hid (fmJ a v u (k+1)=S1++D1++D2):=by rw[hS1];exact H3.out
       clear hS1 hs H3 hsy hst;obtain⟨HSC,HZ0,HS1⟩:=hsc2 r1 r2;have KR1:Hid (∀z:World,Below w2.heap.size w2 z->_):=fun z hz=>FV'.out z
       have KR2:Hid (∀z:World,Below w2.heap.size w2 z->_):=fun z hz=>FU'.out z
       go_region_held3 (fun z=>Below w2.heap.size w2 z/\z.cell? ⟨b,o+k*3+1,none⟩=some (.int .i64 y)/\z.cell? ⟨b,o+k*3+2,none⟩=some (.int .i64 t))
        (first|exact HS1.out|assumption|exact HSC.out _ hz2|exact HSC.out _ hz1|fail)
        (first|(go_at_call 69;((with_reducible refine(KR1.out _ HZ0.out).mono ?_);rintro e w1 ⟨rfl,hb1⟩;have hz1:=bl_trans HZ0.out hb1))|(go_at_call 69;((with_reducible refine(KR2.out _ hz1).mono ?_);rintro e w2 ⟨rfl,hb2⟩;have hz2:=bl_trans hz1 hb2)))
       replace HB2:=hh_ (HB2.keep hz2);clear hb1 hz1 hb2 hz2 HSC HZ0 HS1 KR1 KR2;go_wp2;go_roundw;case rel=>exact⟨k+1,_,by omega,rfl,by go_num,fun _=>by omega,H4.symm,Hg,HB2⟩
       case measure=>simp[intOf]<;>omega
      ·go_wp2;have h7: ¬9223372036854775807<(S++⟨#[43]⟩).size+D1.size:=by simp only[ByteArray.size_append,show∀x:UInt8,(⟨#[x]⟩:ByteArray).size=1 from fun _=>rfl];omega
       have h14: ¬9223372036854775807<(S++⟨#[43]⟩).size+D1.size+D2.size:=by simp only[ByteArray.size_append,show∀x:UInt8,(⟨#[x]⟩:ByteArray).size=1 from fun _=>rfl];omega
       obtain⟨S1,hS1⟩: ∃S1,S1=S++(⟨#[43]⟩:ByteArray):=⟨_,rfl⟩;rw[<-hS1] at h7 h14 ⊢;have H4:Hid (fmJ a v u (k+1)=S1++D1++D2):=by rw[hS1];exact H3.out
       clear hS1 hs H3 hsy hst;obtain⟨HSC,HZ0,HS1⟩:=hsc2 r1 r2;have KR1:Hid (∀z:World,Below w2.heap.size w2 z->_):=fun z hz=>FV'.out z
       have KR2:Hid (∀z:World,Below w2.heap.size w2 z->_):=fun z hz=>FU'.out z
       go_region_held3 (fun z=>Below w2.heap.size w2 z/\z.cell? ⟨b,o+k*3+1,none⟩=some (.int .i64 y)/\z.cell? ⟨b,o+k*3+2,none⟩=some (.int .i64 t))
        (first|exact HS1.out|assumption|exact HSC.out _ hz4|exact HSC.out _ hz3|fail)
        (first|(go_at_call 69;((with_reducible refine(KR1.out _ HZ0.out).mono ?_);rintro e w3 ⟨rfl,hb3⟩;have hz3:=bl_trans HZ0.out hb3))|(go_at_call 69;((with_reducible refine(KR2.out _ hz3).mono ?_);rintro e w4 ⟨rfl,hb4⟩;have hz4:=bl_trans hz3 hb4)))
       replace HB2:=hh_ (HB2.keep hz4);clear hb3 hz3 hb4 hz4 HSC HZ0 HS1 KR1 KR2;go_wp2;go_roundw;case rel=>exact⟨k+1,_,by omega,rfl,by go_num,fun _=>by omega,H4.symm,Hg,HB2⟩
       case measure=>simp[intOf]<;>omega
     ·have i3:(0:Int)<k:=by omega
      have H3:=hh_ (H2.out h0);clear H1 H2 h0;cases x
      ·go_wp2;have h7: ¬9223372036854775807<(S++⟨#[44]⟩++⟨#[45]⟩).size+D1.size:=by simp only[ByteArray.size_append,show∀x:UInt8,(⟨#[x]⟩:ByteArray).size=1 from fun _=>rfl];omega
       have h14: ¬9223372036854775807<(S++⟨#[44]⟩++⟨#[45]⟩).size+D1.size+D2.size:=by simp only[ByteArray.size_append,show∀x:UInt8,(⟨#[x]⟩:ByteArray).size=1 from fun _=>rfl];omega
       obtain⟨S1,hS1⟩: ∃S1,S1=S++⟨#[44]⟩++(⟨#[45]⟩:ByteArray):=⟨_,rfl⟩;rw[<-hS1] at h7 h14 ⊢;have H4:Hid (fmJ a v u (k+1)=S1++D1++D2):=by rw[hS1];exact H3.out
       clear hS1 hs H3 hsy hst;obtain⟨HSC,HZ0,HS1⟩:=hsc2 r1 r2;have KR1:Hid (∀z:World,Below w2.heap.size w2 z->_):=fun z hz=>FV'.out z
       have KR2:Hid (∀z:World,Below w2.heap.size w2 z->_):=fun z hz=>FU'.out z
       go_region_held3 (fun z=>Below w2.heap.size w2 z/\z.cell? ⟨b,o+k*3+1,none⟩=some (.int .i64 y)/\z.cell? ⟨b,o+k*3+2,none⟩=some (.int .i64 t))
        (first|exact HS1.out|assumption|exact HSC.out _ hz6|exact HSC.out _ hz5|fail)
        (first|(go_at_call 69;((with_reducible refine(KR1.out _ HZ0.out).mono ?_);rintro e w5 ⟨rfl,hb5⟩;have hz5:=bl_trans HZ0.out hb5))|(go_at_call 69;((with_reducible refine(KR2.out _ hz5).mono ?_);rintro e w6 ⟨rfl,hb6⟩;have hz6:=bl_trans hz5 hb6)))
       replace HB2:=hh_ (HB2.keep hz6);clear hb5 hz5 hb6 hz6 HSC HZ0 HS1 KR1 KR2;go_wp2;go_roundw;case rel=>exact⟨k+1,_,by omega,rfl,by go_num,fun _=>by omega,H4.symm,Hg,HB2⟩
       case measure=>simp[intOf]<;>omega
      ·go_wp2;have h7: ¬9223372036854775807<(S++⟨#[44]⟩++⟨#[43]⟩).size+D1.size:=by simp only[ByteArray.size_append,show∀x:UInt8,(⟨#[x]⟩:ByteArray).size=1 from fun _=>rfl];omega
       have h14: ¬9223372036854775807<(S++⟨#[44]⟩++⟨#[43]⟩).size+D1.size+D2.size:=by simp only[ByteArray.size_append,show∀x:UInt8,(⟨#[x]⟩:ByteArray).size=1 from fun _=>rfl];omega
       obtain⟨S1,hS1⟩: ∃S1,S1=S++⟨#[44]⟩++(⟨#[43]⟩:ByteArray):=⟨_,rfl⟩;rw[<-hS1] at h7 h14 ⊢;have H4:Hid (fmJ a v u (k+1)=S1++D1++D2):=by rw[hS1];exact H3.out
       clear hS1 hs H3 hsy hst;obtain⟨HSC,HZ0,HS1⟩:=hsc2 r1 r2;have KR1:Hid (∀z:World,Below w2.heap.size w2 z->_):=fun z hz=>FV'.out z
       have KR2:Hid (∀z:World,Below w2.heap.size w2 z->_):=fun z hz=>FU'.out z
       go_region_held3 (fun z=>Below w2.heap.size w2 z/\z.cell? ⟨b,o+k*3+1,none⟩=some (.int .i64 y)/\z.cell? ⟨b,o+k*3+2,none⟩=some (.int .i64 t))
        (first|exact HS1.out|assumption|exact HSC.out _ hz8|exact HSC.out _ hz7|fail)
        (first|(go_at_call 69;((with_reducible refine(KR1.out _ HZ0.out).mono ?_);rintro e w7 ⟨rfl,hb7⟩;have hz7:=bl_trans HZ0.out hb7))|(go_at_call 69;((with_reducible refine(KR2.out _ hz7).mono ?_);rintro e w8 ⟨rfl,hb8⟩;have hz8:=bl_trans hz7 hb8)))
       replace HB2:=hh_ (HB2.keep hz8);clear hb7 hz7 hb8 hz8 HSC HZ0 HS1 KR1 KR2;go_wp2;go_roundw;case rel=>exact⟨k+1,_,by omega,rfl,by go_num,fun _=>by omega,H4.symm,Hg,HB2⟩
       case measure=>simp[intOf]<;>omega
  ·have i1:(n:Int)<=k:=by omega
   obtain rfl:k=n:=by omega
   by_cases h0:k=0
   ·have Ho:Hid (fmO k a v u=⟨#[110,111,110,101]⟩):=by rw[h0];exact fmO_none
    obtain rfl:S=⟨#[]⟩:=by rw[HS.out,h0];rfl
    clear h0;go_wp2;go_ret;exact⟨by rw[Ho.out];rfl,HB.below⟩
   ·have Ho:Hid (fmO k a v u=S):=by rw[HS.out];exact fmO_yes (by omega) (h12 h0) hall.out
    have hs:0<S.size:=by rw[HS.out];exact fmJ_some a v u (by omega)
    have e1: ¬S=⟨#[]⟩:=fun h=>by rw[h] at hs;exact absurd hs (by decide)
    have e2:S.toList.isEmpty=false:=by rw[List.isEmpty_eq_false_iff];exact fun h=>e1 ((toList_nil_iff_emptyBytes S).1 h)
    clear h0 hs;go_wp2;go_ret;exact⟨by rw[Ho.out];rfl,HB.below⟩
end Go.Proofs.YtfabbohijhjpcaaGreatDoor
