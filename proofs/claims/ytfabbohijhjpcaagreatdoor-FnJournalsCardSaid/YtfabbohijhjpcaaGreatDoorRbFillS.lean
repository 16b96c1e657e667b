/- Lemmas. -/
import Derived.Test.YtfabbohijhjpcaaGreatDoorRbColI
/-
-/
namespace Go.Proofs.YtfabbohijhjpcaaGreatDoor
open Go.RowKit
set_option maxHeartbeats 1000000
def lsQ (w:World) (o:Option (List Nat)) (e:Ending) (w':World):Prop:=
 ∃A' c',e=.returned (.tuple #[.slice A' (o.getD []).length c',.bool o.isSome])/\ON w.heap.size w' A' c' (o.getD [])/\Below w.heap.size w w'
theorem lsQ.no {w w':World} (hb:Below w.heap.size w w'):lsQ w none (.returned (.tuple #[.slice none 0 0,.bool false])) w':=⟨none,0,rfl,⟨Own.nil _ _ _ _ _ _⟩,hb⟩
theorem lsQ.yes {w w':World} {A:Option Addr} {c:Nat} {l:List Nat} (ho:ON w.heap.size w' A c l) (hb:Below w.heap.size w w'):lsQ w (some l) (.returned (.tuple #[.slice A l.length c,.bool true])) w':=⟨A,c,rfl,ho,hb⟩
theorem lsQ.up {w w':World} {o:Option (List Nat)} {e:Ending} {W:World} (h:lsQ W o e w') (hb:Below w.heap.size w W):lsQ w o e w':=by
 obtain⟨A,c,h1,h2,h3⟩:=h;exact⟨A,c,h1,h2.mono hb.size,hb.trans (h3.mono hb.size)⟩
def lsK (p:Nat->Bool) (n:Nat):Option Nat:=(List.range n).find? p
def lsV:Option Nat->Value
 |none=> .tuple #[.int .i64 0,.bool false]
 |some k=> .tuple #[.int .i64 (k:Int),.bool true]
theorem lsV_none:lsV none=.tuple #[.int .i64 0,.bool false]:=rfl
theorem lsV_some (k:Nat):lsV (some k)=.tuple #[.int .i64 (k:Int),.bool true]:=rfl
theorem lsK_yes {p:Nat->Bool} {n k:Nat} (hk:k<n) (hp:p k=true) (hmin: ∀j,j<k->p j=false):lsK p n=some k:=by
 unfold lsK;rw[List.find?_range_eq_some];exact⟨hp,by simp[hk],fun j hj=>by simp[hmin j hj]⟩
theorem lsK_no {p:Nat->Bool} {n:Nat} (h: ∀j,j<n->p j=false):lsK p n=none:=by
 unfold lsK;rw[List.find?_eq_none];intro j hj;simp[h j (List.mem_range.1 hj)]
theorem wpList_copyN (W:World) {ops:Array Oper} {rest:List Oper} {o:Oper} {a:Act} {Q:Exit->Act->World->Prop} (hgd:o.guard=none) (s z:Operand)
 (ho:o.op=.call {callee:=.builtin .append,args:= #[s,z],argTypes:= #[24,24]})
 (Al:Option Addr) (cl:Nat) (l:List Nat) (h:LN W Al cl l) (hl:l.length<=1073741824) (H:Nat) (hH:W.heap.size=H) (hs:a.eval s=.slice (some ⟨H,0,none⟩) 0 0) (hz:a.eval z=.slice Al l.length cl)
 (hK: ∀A' c' w',Own w' W.heap.size w'.heap.size 3 1 A' l.length c' (ni l)->Below W.heap.size W w'->wpList Tryz.prog ops Q rest (a.put o.dst (.slice A' l.length c')) w'):
 wpList Tryz.prog ops Q (o::rest) a (W.alloc (Obj.cells #[] 3)):=by
 subst hH;have HO:Own (W.alloc (Obj.cells #[] 3)) W.heap.size (W.heap.size+1) 3 1 (some ⟨W.heap.size,0,none⟩) 0 0 (ni []):=
  .inr ⟨W.heap.size,#[],rfl,nr_,Nat.lt_succ_self _,heap_alloc_new W _,nr_,by unfold maxLen;omega,rfl,fun j hj=>absurd hj (by omega)⟩
 have HB:Below W.heap.size W (W.alloc (Obj.cells #[] 3)):=br_.alloc nr_ _;refine wpList_appendI _ hgd s z ho hs HO hz (h.rd.keep HB nr_) HB.size (by omega) hl fun A' c' w' h1 h2=> ?_
 have h3:Own w' W.heap.size w'.heap.size 3 1 A' l.length c' (ni l):=by
  have:=h1;rw[Nat.zero_add] at this;exact this.congr fun j hj=>by unfold thenI ni;simp
 have:=hK A' c' w' h3 (HB.trans h2);rw[Nat.zero_add];exact this
section
variable {A:Option Addr} {m c:Nat} {r:Nat->Nat} {fn:FuncId} {caps:Array Value} {p:Nat->Bool}
theorem least_g (hef:Ent fn) (w:World) (h:GV w A m c r)
 (HF: ∀(s:Nat) (z:World),s<2^m->Below w.heap.size w z->Calls Tryz.prog fn (#[.agg #[.int .i64 m,.slice A m c],.int .i64 s]++caps) z (fun e z'=>e=.returned (.bool (p s))/\Below z.heap.size z z')):
 Calls Tryz.prog 242 #[.agg #[.int .i64 m,.slice A m c],.func (.func fn) #[] caps] w fun e w'=>e=.returned (lsV (lsK p (2^m)))/\Below w.heap.size w w':=by
 have hn7:=h.vg.n7;unfold Ent at hef;have h128:=two_pow_le hn7;have hpos:=Nat.two_pow_pos m;have s1:wrap64 (((2^m-1:Nat):Int)+1)=((2^m:Nat):Int):=by
  rw[Go.IntWalk.wrap64_in _ (by omega)];omega
 obtain⟨W,hW,HB,HG⟩:=gbW h;have HW:=hh_ hW;clear hW h;obtain⟨e0,e1⟩:=gx_ HG;have HF:=hh_ HF;have HS:=hh_ s1;go_enter Tryz.func242,Tryz.ntmps242;go_wp2_with fail
 rw[<-HW.out];refine(IsGraph_v HG.gv).mono ?_;rintro e w1 ⟨rfl,hb1⟩;clear HW;clear e0 e1;obtain⟨HB,HG,e0,e1⟩:=kG_ HB HG hb1;clear hb1;go_wp2_with fail
 refine(all_v HG.gv).mono ?_;rintro e w2 ⟨rfl,hb2⟩;clear e0 e1;obtain⟨HB,HG,e0,e1⟩:=kG_ HB HG hb2;clear hb2;go_wp2;go_loopw [13] (fun i wr=> ∃k:Nat,k<=2^m/\i=.int .i64 k/\Hid (∀u,u<k->p u=false)/\Hid (From w2 wr)) (fun i _=>2^m-(intOf i).toNat);case atStart=>exact⟨0,Nat.zero_le _,rfl,(fun u hu=>absurd hu (by omega)),From.refl _⟩
 case round=>
  obtain⟨k,hk,rfl,hall,HR⟩:=hrel;clear e0 e1;replace HB:=hh_ (HB.keep HR.below);replace HG:=hh_ (HG.keep HR.below);obtain⟨e0,e1⟩:=gx_ HG;by_cases hlt:k<2^m
  ·have i1:(k:Int)<((2^m:Nat):Int):=by omega
   have KF:=hh_ (HF.out k _ hlt HB.below);go_wp2_with fail
   refine(KF.out).mono ?_;rintro e w3 ⟨rfl,hb3⟩;clear e0 e1;replace HB:=hh_ (HB.keep hb3);replace HG:=hh_ (HG.keep hb3);replace HR:=hh_ (HR.keep hb3);clear hb3;obtain⟨e0,e1⟩:=gx_ HG;cases hp:p k
   ·have Hn:Hid (∀u,u<k+1->p u=false):=fun u hu=>by
     by_cases huk:u<k
     ·exact hall.out u huk
     ·obtain rfl:u=k:=by omega
      exact hp
    clear hp KF;go_wp2;go_roundw;case rel=>exact⟨k+1,by omega,by go_num,Hn,HR⟩
    case measure=>simp[intOf];omega
   ·have Hn:Hid (lsK p (2^m)=some k):=lsK_yes hlt hp hall.out;clear hp KF;go_wp2;go_ret2;exact⟨by rw[Hn.out];rfl,HB.below⟩
  ·have hkm:k=2^m:=by omega
   have Hn:Hid (lsK p (2^m)=none):=lsK_no fun u hu=>hall.out u (by omega)
   have i1:((2^m:Nat):Int)<=(k:Int):=by omega
   clear hkm;go_wp2;go_ret2;exact⟨by rw[Hn.out];rfl,HB.below⟩
end
theorem least_no {sz:Int} {A:Option Addr} {m c:Nat} {x:Nat->Int} {w:World} {f:Value} (h:GA w A m c x) (hm:m<=1048576) (hok:okB sz m x=false):
 Calls Tryz.prog 242 #[.agg #[.int .i64 sz,.slice A m c],f] w fun e w'=>e=.returned (lsV none)/\Below w.heap.size w w':=by
 obtain⟨W,hW,HB,HK,HC⟩:=gaW sz h;have HW:=hh_ hW;have Ho:=hh_ hok;clear hW h hok;go_enter Tryz.func242,Tryz.ntmps242;obtain⟨e0,e1⟩:=gc_ HC;go_wp2_with fail
 rw[<-HW.out];clear HW;refine(IsGraph_any sz A m c x W W.heap.size HK.rd nr_ hm).mono ?_;rintro e w1 ⟨rfl,hb1⟩;rw[Ho.out];clear e0 e1;obtain⟨HB,HK,HC,e0,e1⟩:=kC_ HB HK HC hb1;clear hb1;go_wp2;go_ret2;exact⟨rfl,HB.below⟩
theorem always_n (A:Option Addr) (n c:Nat) (w:World):Calls Tryz.prog 210 #[.slice A n c] w fun e w'=>e=.returned (.bool true)/\Below w.heap.size w w':=by
 go_enter Tryz.func210,Tryz.ntmps210;go_wp2;go_ret;exact⟨rfl,br_⟩
section
variable {m c H:Nat} {A:Option Addr} {r:Nat->Nat} {fn:FuncId} {caps:Array Value} {p:List Nat->Int} {w0:World}
end
set_option maxHeartbeats 1600000
theorem orB_parts {sz:Int} {m:Nat} {x:Nat->Int} {l:List Int} (h:orB sz m x l=true):okB sz m x=true/\VZ m l/\l.length=m:=by
 unfold orB vrB at h;simp only[Bool.and_eq_true,decide_eq_true_eq] at h;exact⟨h.1.1,vzB_iff.1 h.1.2,h.2⟩
theorem VZ.all {m:Nat} {l:List Int} (h:VZ m l) (hl:l.length=m) {v:Int} (h0:0<=v) (h1:v<m):v∈l:=by
 refine Classical.byContradiction fun hn=> ?_
 have:VZ m (v::l):=⟨List.nodup_cons.2 ⟨hn,h.1⟩,fun u hu=>by
  rw[List.mem_cons] at hu;rcases hu with rfl|hu
  ·exact⟨h0,h1⟩
  ·exact h.2 u hu⟩
 have:=this.len;rw[List.length_cons] at this;omega
theorem stN_all {m:Nat} {l:List Int} (h:VZ m l) (hl:l.length=m):stN l=2^m-1:=by
 apply Nat.eq_of_testBit_eq;intro i;rw[Nat.testBit_two_pow_sub_one,Bool.eq_iff_iff,stN_bit (fun v hv=>(h.2 v hv).1),decide_eq_true_eq];constructor
 ·intro hi;have:=(h.2 _ hi).2;omega
 ·intro hi;exact h.all hl (by omega) (by omega)
theorem drop_consz {l:List Int} {k:Nat} (hk:k<l.length):l.drop k=l.getD k 0::l.drop (k+1):=by
 rw[List.drop_eq_getElem_cons hk];simp[List.getD,hk]
theorem VZ.drop {m:Nat} {l:List Int} (h:VZ m l) (k:Nat):VZ m (l.drop k):=⟨h.1.sublist (List.drop_sublist _ _),fun v hv=>h.2 v (List.mem_of_mem_drop hv)⟩
theorem stN_drop {m:Nat} {l:List Int} {k:Nat} (h:VZ m l) (hk:k<l.length):stN (l.drop k)=stN (l.drop (k+1))+2^(l.getD k 0).toNat:=by
 have hd:=h.drop k;rw[drop_consz hk] at hd ⊢;have hn:=(List.nodup_cons.1 hd.1).1;have h0:=(hd.2 _ (List.mem_cons_self)).1;have hb:(stN (l.drop (k+1))).testBit (l.getD k 0).toNat=false:=by
  cases hb:(stN (l.drop (k+1))).testBit (l.getD k 0).toNat
  ·rfl
  ·rw[stN_bit (fun v hv=>(hd.2 v (List.mem_cons_of_mem _ hv)).1),Int.toNat_of_nonneg h0] at hb;exact absurd hb hn
 rw[or_of_add hb,stN,Nat.or_comm]
def ixN (l:List Int) (v:Int):Nat:=(fIdx (fun j=>l.getD j 0==v) l.length).toNat
theorem ixN_in {l:List Int} {v:Int} (h:v∈l):ixN l v<l.length/\fIdx (fun j=>l.getD j 0==v) l.length=(ixN l v:Int)/\l.getD (ixN l v) 0=v/\ ∀j,j<ixN l v->l.getD j 0≠v:=by
 obtain⟨k,hk,e⟩:=fIdz_in h;have e2:ixN l v=k:=by unfold ixN;rw[e];rfl
 rw[e2];refine⟨hk,e,?_⟩;unfold fIdx at e;cases hf:(List.range l.length).find? (fun j=>l.getD j 0==v) with
 |none=>rw[hf] at e;simp at e
 |some j=>
  rw[hf] at e;have:j=k:=by have h:=e;simp at h;omega
  subst this;rw[List.find?_range_eq_some] at hf;exact⟨by simpa using hf.1,fun i hi=>by simpa using hf.2.2 i hi⟩
def ltN (r:Nat->Nat) (l:List Int) (v:Int):Nat:=r v.toNat&&&stN (l.drop (ixN l v))
noncomputable def ltZ (sz:Int) (m:Nat) (x:Nat->Int) (l:List Int) (v:Int):Nat:=if (orB sz m x l&&decide (0<=v/\v<m))=true then ltN (rw_ x) l v else 0
theorem ltZ_yes {sz:Int} {m:Nat} {x:Nat->Int} {l:List Int} {v:Int} (h:orB sz m x l=true) (hv:0<=v/\v<m):ltZ sz m x l v=ltN (rw_ x) l v:=by
 unfold ltZ;rw[h,decide_eq_true hv];rfl
theorem ltZ_no {sz:Int} {m:Nat} {x:Nat->Int} {l:List Int} {v:Int} (h:orB sz m x l=false):ltZ sz m x l v=0:=by unfold ltZ;rw[h];rfl
theorem ltZ_out {sz:Int} {m:Nat} {x:Nat->Int} {l:List Int} {v:Int} (h: ¬(0<=v/\v<m)):ltZ sz m x l v=0:=by unfold ltZ;rw[decide_eq_false h,Bool.and_false];rfl
theorem LI.drop {w:World} {b o n c k:Nat} {l:List Int} (h:LI w (some ⟨b,o,none⟩) n c l) (hk:k<n):LI w (some ⟨b,o+k,none⟩) (n-k) (c-k) (l.drop k):=
 ⟨by rw[List.length_drop,<-h.len],by have:=h.rd.1;omega,fun hn=>by
   obtain⟨b',o',e,hb,hc⟩:=h.rd.2 (by omega)
   simp only[Option.some.injEq,Addr.mk.injEq,and_true] at e
   obtain⟨rfl,rfl⟩:=e
   refine⟨b,o+k,rfl,hb,fun j hj=> ?_⟩
   rw[Nat.add_assoc,hc (k+j) (by omega)]
   simp[List.getD]⟩
theorem LaterNeighbours_s (sz:Int) (A:Option Addr) (m c:Nat) (x:Nat->Int) (Al:Option Addr) (n cl:Nat) (l:List Int) (v:Int) (w:World) (h:GA w A m c x) (hl:LI w Al n cl l) (hm:m<=1048576) (hn:n<=1048576):
 Calls Tryz.prog 302 #[.agg #[.int .i64 sz,.slice A m c],.slice Al n cl,.int .i64 v] w fun e w'=>e=.returned (.int .i64 (ltZ sz m x l v:Nat))/\Below w.heap.size w w':=by
 obtain⟨W,hW⟩: ∃W,W=(w.alloc (Obj.cells #[.int .i64 sz,.slice A m c] 26)):=⟨_,rfl⟩;have HB:Hid (From w W):=by rw[hW];exact From.alloc _ _
 have HK:=hh_ (h.keep HB.below);have HL:=hh_ (hl.keep HB.below);have HC:Hid (GC W w.heap.size sz A m c):=by rw[hW];exact GC.new _ _ _ _ _
 have HW:=hh_ hW;have HN:=hh_ hl.len;clear hW h hl;go_enter Tryz.func302,Tryz.ntmps302;obtain⟨e0,e1⟩:=gc_ HC;go_wp2_with fail
 rw[<-HW.out];refine(IsOrder_sz sz A m c x Al n cl l W HK HL.out hm hn).mono ?_;rintro e w1 ⟨rfl,hb1⟩;clear HW;clear e0 e1;replace HB:=hh_ (HB.keep hb1);replace HK:=hh_ (HK.keep hb1);replace HL:=hh_ (HL.keep hb1);replace HC:=hh_ (HC.keep hb1);clear hb1;obtain⟨e0,e1⟩:=gc_ HC;cases hv:orB sz m x l
 ·have hno:Hid (ltZ sz m x l v=0):=ltZ_no hv;clear hv;go_wp2;go_ret;exact⟨ret_int (by rw[hno.out];rfl),HB.below⟩
 ·obtain⟨ho,hV,hlen⟩:=orB_parts hv;obtain⟨_,es,vg0,_⟩:=okB_ok' ho;subst es;have hn1:=vg0.n1;have hn7:=vg0.n7;have HG:Hid (GV w1 A m c (rw_ x)):=HK.gv ho;by_cases hr:0<=v/\v<(m:Int)
  ·obtain⟨r1,r2⟩:=hr;obtain⟨h1,_,h3,h4⟩:=ixN_in (hV.all hlen r1 r2);have hyes:Hid (ltZ (m:Int) m x l v=ltN (rw_ x) l v):=ltZ_yes hv ⟨r1,r2⟩;obtain⟨K,hK⟩: ∃K,K=ixN l v:=⟨_,rfl⟩;rw[<-hK] at h1 h3 h4;have hKn:K<n:=by rw[HN.out];exact h1
   obtain⟨b,o,rfl⟩:=HL.addr (by omega);obtain⟨b2,o2,rfl⟩:=HG.addr;obtain⟨u,rfl⟩:=Int.eq_ofNat_of_zero_le r1;have hu:u<m:=by omega
   have q0:=HG.row hu;have hr128:=HG.vg.lt128 hu;have h128:=two_pow_le hn7;have p1:=pow_shl m hn7;have hpc:=pow_cast m;have hpos:=Nat.two_pow_pos m;have hall:=stN_all hV hlen;have s0:(2:Int)^m-1=(stN (l.drop 0):Int):=by
    rw[List.drop_zero,hall];omega
   have S0:Hid (wrap64 (stN l:Int)=(stN (l.drop 0):Int)):=by rw[List.drop_zero,hall];exact Go.IntWalk.wrap64_in _ (by omega)
   have HV2:=hh_ hV;have H3:=hh_ h3;have H4:=hh_ h4;have he:Hid (rw_ x u&&&stN (l.drop K)=ltZ (m:Int) m x l u):=by show _=_;rw[hyes.out,hK];rfl
   have i3:(u:Int)<m:=r2;clear hV hlen h3 h4 hK ho hv vg0 hall;go_wp2;clear s0;go_loop [7,8] (fun s i=> ∃k:Nat,k<=K/\i=.int .i64 k/\s=.int .i64 (stN (l.drop k):Nat)) (fun _ i=>n-(intOf i).toNat);case atStart=>exact⟨0,Nat.zero_le _,rfl,congrArg (Value.int .i64) S0.out⟩
   case round=>
    obtain⟨k,hk,rfl,rfl⟩:=hrel;have hkn:k<n:=by omega
    have hkl:k<l.length:=by rw[<-HN.out];exact hkn
    have q1:=HL.at hkn;have i1:(k:Int)<n:=by omega
    by_cases hkK:k=K
    ·have e1:l.getD k 0=(u:Int):=by rw[hkK];exact H3.out
     rw[e1] at q1;have hlt:=stN_lt (HV2.drop k).2;have E:=i64_and_nat (rw_ x u) (stN (l.drop k)) (by omega) (by omega);rw[hkK,he.out,<-hkK] at E;have hne:((u:Int) !=(u:Int))=false:=by simp
     clear hkK e1;go_wp2;go_ret;exact⟨rfl,HB.below⟩
    ·have hne1:l.getD k 0≠(u:Int):=H4.out k (by omega);have hst:=stN_drop HV2 hkl;have hmem:=HV2.out.2 _ (getD_mem hkl);have hlt:=stN_lt (HV2.drop k).2;obtain⟨a,ha⟩: ∃a:Int,a=l.getD k 0:=⟨_,rfl⟩;rw[<-ha] at q1 hne1 hst hmem;obtain⟨a0,a1⟩:=hmem;obtain⟨d,rfl⟩:=Int.eq_ofNat_of_zero_le a0;rw[Int.toNat_natCast] at hst;have hne:((d:Int) !=(u:Int))=true:=by simpa using hne1
     have hne2:(d=u)=False:=by simp;omega
     have p2:=pow_shl d (by omega);have hpd:=pow_cast d;have h2d:=two_pow_int d (by omega);have s1:wrap64 ((stN (l.drop k):Int)-2^d)=(stN (l.drop (k+1)):Int):=by
      rw[Go.IntWalk.wrap64_in _ (by omega)];omega
     have hkK2:k+1<=K:=by omega
     clear ha hst hne1 hkK hlt hpd;go_wp2;go_round;case rel=>exact⟨k+1,hkK2,by go_num,by first|rfl|exact congrArg (Value.int .i64) s1⟩
     case measure=>simp[intOf];omega
  ·have hno:Hid (ltZ (m:Int) m x l v=0):=ltZ_out hr;clear hv hV hlen ho vg0;by_cases h0:v<0
   ·clear hr;go_wp2;go_ret;exact⟨ret_int (by rw[hno.out];rfl),HB.below⟩
   ·have i1:(m:Int)<=v:=by omega
    have i2:(0:Int)<=v:=by omega
    clear hr h0;go_wp2;go_ret;exact⟨ret_int (by rw[hno.out];rfl),HB.below⟩
def orP (r:Nat->Nat) (v u:Nat):Nat->Nat:=fun i=>if i=v then r v|||2^u else if i=u then r u|||2^v else r i
def foldP (r:Nat->Nat) (ps:List (Nat×Nat)):Nat->Nat:=ps.foldl (fun r p=>orP r p.1 p.2) r
theorem orP_bit {r:Nat->Nat} {v u i j:Nat} (h:v≠u):(orP r v u i).testBit j=((r i).testBit j||decide ((v=i/\u=j)\/(u=i/\v=j))):=by
 unfold orP;by_cases h1:i=v
 ·subst h1;rw[if_pos rfl,Nat.testBit_or,Nat.testBit_two_pow];congr 1;rw[decide_eq_decide];constructor
  ·intro e;exact .inl ⟨rfl,e⟩
  ·rintro(⟨_,e⟩|⟨e,_⟩)
   ·exact e
   ·exact absurd e.symm h
 ·rw[if_neg h1];by_cases h2:i=u
  ·subst h2;rw[if_pos rfl,Nat.testBit_or,Nat.testBit_two_pow];congr 1;rw[decide_eq_decide];constructor
   ·intro e;exact .inr ⟨rfl,e⟩
   ·rintro(⟨e,_⟩|⟨_,e⟩)
    ·exact absurd e h
    ·exact e
  ·rw[if_neg h2,decide_eq_false,Bool.or_false];rintro(⟨e,_⟩|⟨e,_⟩)
   ·exact h1 e.symm
   ·exact h2 e.symm
theorem VG.orP {m:Nat} {r:Nat->Nat} (vg:VG m r) {v u:Nat} (hv:v<m) (hu:u<m) (hne:v≠u):VG m (orP r v u):=by
 refine⟨vg.n1,vg.n7,fun i hi=> ?_,fun i hi=> ?_,fun i j hi hj=> ?_⟩
 ·unfold Go.Proofs.YtfabbohijhjpcaaGreatDoor.orP;split
  ·exact Nat.or_lt_two_pow (vg.lt _ hv) (Nat.pow_lt_pow_right (by omega) hu)
  ·split
   ·exact Nat.or_lt_two_pow (vg.lt _ hu) (Nat.pow_lt_pow_right (by omega) hv)
   ·exact vg.lt _ hi
 ·rw[orP_bit hne,vg.irr i hi,Bool.false_or];apply decide_eq_false;rintro(⟨rfl,e⟩|⟨rfl,e⟩)
  ·exact hne e.symm
  ·exact hne e
 ·rw[orP_bit hne,orP_bit hne,vg.sym i j hi hj];congr 1;rw[decide_eq_decide];constructor
  ·rintro(⟨a,b⟩|⟨a,b⟩)
   ·exact .inr ⟨b,a⟩
   ·exact .inl ⟨b,a⟩
  ·rintro(⟨a,b⟩|⟨a,b⟩)
   ·exact .inr ⟨b,a⟩
   ·exact .inl ⟨b,a⟩
theorem foldP_one (r:Nat->Nat) (ps:List (Nat×Nat)) (v u:Nat):foldP r (ps++ [(v,u)])=orP (foldP r ps) v u:=by unfold foldP;rw[List.foldl_append];rfl
theorem foldP_bit {i j:Nat}: ∀(ps:List (Nat×Nat)) (r:Nat->Nat),(∀p∈ps,p.1≠p.2)->(foldP r ps i).testBit j=((r i).testBit j||decide ((i,j)∈ps\/(j,i)∈ps)):=by
 intro ps;induction ps with
 |nil=>intro r _;simp[foldP]
 |cons p ps ih=>
  intro r h;obtain⟨v,u⟩:=p;have e:=ih (Go.Proofs.YtfabbohijhjpcaaGreatDoor.orP r v u) (fun q hq=>h q (List.mem_cons_of_mem _ hq));have e0:foldP r ((v,u)::ps)=foldP (Go.Proofs.YtfabbohijhjpcaaGreatDoor.orP r v u) ps:=rfl;rw[e0,e,orP_bit (h (v,u) (List.mem_cons_self)),Bool.or_assoc];congr 1;rw[<-Bool.decide_or,decide_eq_decide,List.mem_cons,List.mem_cons];simp only[Prod.mk.injEq];constructor
  ·rintro((⟨a,b⟩|⟨a,b⟩)|(a|a))
   ·exact .inl (.inl ⟨a.symm,b.symm⟩)
   ·exact .inr (.inl ⟨b.symm,a.symm⟩)
   ·exact .inl (.inr a)
   ·exact .inr (.inr a)
  ·rintro((⟨a,b⟩|a)|(⟨a,b⟩|a))
   ·exact .inl (.inl ⟨a.symm,b.symm⟩)
   ·exact .inr (.inl a)
   ·exact .inl (.inr ⟨b.symm,a.symm⟩)
   ·exact .inr (.inr a)
theorem VG.foldP {m:Nat}: ∀(ps:List (Nat×Nat)) {r:Nat->Nat},VG m r->(∀p∈ps,p.1<m/\p.2<m/\p.1≠p.2)->VG m (foldP r ps):=by
 intro ps;induction ps with
 |nil=>intro r vg _;exact vg
 |cons p ps ih=>
  intro r vg h;have h0:=h p (List.mem_cons_self);exact ih (vg.orP h0.1 h0.2.1 h0.2.2) (fun q hq=>h q (List.mem_cons_of_mem _ hq))
def psR (L:List Nat) (a b:Nat):List (Nat×Nat):=(List.range b).map fun j=>(L.getD a 0,L.getD j 0)
def psN (L:List Nat) (a b:Nat):List (Nat×Nat):=((List.range a).flatMap fun i=>psR L i i)++psR L a b
theorem psN_step (L:List Nat) (a b:Nat):psN L a (b+1)=psN L a b++ [(L.getD a 0,L.getD b 0)]:=by
 unfold psN psR;rw[List.range_succ,List.map_append,List.append_assoc];rfl
theorem psN_row (L:List Nat) (a:Nat):psN L (a+1) 0=psN L a a:=by
 unfold psN;rw[List.range_succ,List.flatMap_append];simp[psR]
theorem mem_psN {L:List Nat} {a b:Nat} {p:Nat×Nat}:p∈psN L a b↔ ∃i j,((i<a/\j<i)\/(i=a/\j<b))/\p=(L.getD i 0,L.getD j 0):=by
 unfold psN psR;simp only[List.mem_append,List.mem_flatMap,List.mem_map,List.mem_range];constructor
 ·rintro(⟨i,hi,j,hj,e⟩|⟨j,hj,e⟩)
  ·exact⟨i,j,.inl ⟨hi,hj⟩,e.symm⟩
  ·exact⟨a,j,.inr ⟨rfl,hj⟩,e.symm⟩
 ·rintro⟨i,j,(⟨hi,hj⟩|⟨rfl,hj⟩),e⟩
  ·exact .inl ⟨i,hi,j,hj,e.symm⟩
  ·exact .inr ⟨j,hj,e.symm⟩
theorem listN_nodup (s:Nat):(listN s).Nodup:=List.Pairwise.filter _ List.nodup_range
theorem listN_getD {s j:Nat} (h:j<(listN s).length):(listN s).getD j 0=(listN s)[j]:=by simp[List.getD,h]
theorem getD_ne {s i j:Nat} (hi:i<(listN s).length) (hj:j<(listN s).length) (h:i≠j):(listN s).getD i 0≠(listN s).getD j 0:=by
 rw[listN_getD hi,listN_getD hj];intro e;exact h ((List.getElem_inj (listN_nodup s)).1 e)
theorem listN_lt {s m j:Nat} (hs:s<2^m) (hj:j<(listN s).length):(listN s).getD j 0<m:=by
 rw[listN_getD hj];exact bit_lt hs (listN_at hj).2
theorem psN_in {s m a b:Nat} (hs:s<2^m) (h:a<(listN s).length/\b<=a\/a<=(listN s).length/\b=0): ∀p∈psN (listN s) a b,p.1<m/\p.2<m/\p.1≠p.2:=by
 intro p hp;obtain⟨i,j,hij,rfl⟩:=mem_psN.1 hp;exact⟨listN_lt hs (by omega),listN_lt hs (by omega),getD_ne (by omega) (by omega) (by omega)⟩
def fillN (r:Nat->Nat) (s:Nat):Nat->Nat:=fun i=>if i∈listN s then r i|||(s^^^2^i) else r i
theorem fold_fill (r:Nat->Nat) {s m:Nat} (hs:s<2^m) (hm:m<=7):foldP r (psN (listN s) (listN s).length 0)=fillN r s:=by
 funext i
 apply Nat.eq_of_testBit_eq;intro j;have hlt7: ∀ {v:Nat},s.testBit v=true->v∈listN s:=fun {v} hb=>mem_listN.2 ⟨by have:=bit_lt hs hb;omega,hb⟩
 rw[foldP_bit _ _ (fun p hp=>(psN_in hs (.inr ⟨nr_,rfl⟩) p hp).2.2)];have hmem:((i,j)∈psN (listN s) (listN s).length 0\/(j,i)∈psN (listN s) (listN s).length 0)↔(i∈listN s/\j∈listN s/\i≠j):=by
  constructor
  ·rintro(h|h)
   ·obtain⟨a,b,hab,e⟩:=mem_psN.1 h;simp only[Prod.mk.injEq] at e;obtain⟨rfl,rfl⟩:=e;have ha:a<(listN s).length:=by omega
    have hb:b<(listN s).length:=by omega
    refine⟨?_,?_,getD_ne ha hb (by omega)⟩
    ·rw[listN_getD ha];exact List.getElem_mem _
    ·rw[listN_getD hb];exact List.getElem_mem _
   ·obtain⟨a,b,hab,e⟩:=mem_psN.1 h;simp only[Prod.mk.injEq] at e;obtain⟨rfl,rfl⟩:=e;have ha:a<(listN s).length:=by omega
    have hb:b<(listN s).length:=by omega
    refine⟨?_,?_,getD_ne hb ha (by omega)⟩
    ·rw[listN_getD hb];exact List.getElem_mem _
    ·rw[listN_getD ha];exact List.getElem_mem _
  ·rintro⟨hi,hj,hne⟩;obtain⟨a,ha,rfl⟩:=List.getElem_of_mem hi;obtain⟨b,hb,rfl⟩:=List.getElem_of_mem hj;have hab:a≠b:=by rintro rfl;exact hne rfl
   by_cases hlt:b<a
   ·exact .inl (mem_psN.2 ⟨a,b,.inl ⟨ha,hlt⟩,by rw[listN_getD ha,listN_getD hb]⟩)
   ·exact .inr (mem_psN.2 ⟨b,a,.inl ⟨hb,by omega⟩,by rw[listN_getD ha,listN_getD hb]⟩)
 rw[decide_eq_decide.2 hmem];unfold fillN;by_cases hi:i∈listN s
 ·rw[if_pos hi,Nat.testBit_or,Nat.testBit_xor,Nat.testBit_two_pow];congr 1;have hib:=(mem_listN.1 hi).2;by_cases hij:i=j
  ·subst hij;rw[hib];simp
  ·rw[decide_eq_false hij,Bool.xor_false];cases hb:s.testBit j
   ·apply decide_eq_false;rintro⟨_,h2,_⟩;have:=(mem_listN.1 h2).2;rw[hb] at this;cases this
   ·exact decide_eq_true ⟨hi,hlt7 hb,hij⟩
 ·rw[if_neg hi,decide_eq_false (fun h=>hi h.1),Bool.or_false]
theorem VG.fillN {m:Nat} {r:Nat->Nat} (vg:VG m r) {s:Nat} (hs:s<2^m):VG m (fillN r s):=by
 rw[<-fold_fill r hs vg.n7];exact vg.foldP _ (psN_in hs (.inr ⟨nr_,rfl⟩))
def fl (r:Nat->Nat) (l:List Int):Nat->Nat->Nat
 |0=>r
 |k+1=>fillN (fl r l k) (ltN (fl r l k) l (l.getD k 0))
theorem ltN_lt {m:Nat} {r:Nat->Nat} {l:List Int} {v:Int} (vg:VG m r) (h0:0<=v) (h1:v<m):ltN r l v<2^m:=Nat.lt_of_le_of_lt Nat.and_le_left (vg.lt _ (by omega))
theorem VG.fl {m:Nat} {r:Nat->Nat} {l:List Int} (vg:VG m r) (hV:VZ m l): ∀k,k<=l.length->VG m (fl r l k)
 |0,_=>vg
 |k+1,hk=>by
  have ih:=VG.fl vg hV k (by omega)
  have:=hV.2 _ (getD_mem (l:=l) (k:=k) (by omega))
  exact ih.fillN (ltN_lt ih this.1 this.2)
theorem orB_yes {m:Nat} {x:Nat->Int} {l:List Int} (h:okB (m:Int) m x=true) (hV:VZ m l) (hl:l.length=m):orB (m:Int) m x l=true:=by
 unfold orB vrB;rw[h,vzB_iff.2 hV,decide_eq_true hl];rfl
set_option maxHeartbeats 3200000
theorem aeX_or {m a b j:Nat} {r:Nat->Nat} (vg:VG m r) (ha:a<m) (hb:b<m) (hne:a≠b):
 aeX (m:Int) m (fun v=>(r v:Int)) (a:Int) (b:Int) j=((orP r a b j:Nat):Int):=by
 have hok:okB (m:Int) m (fun v=>(r v:Int))=true:=okB_yes ⟨r,rfl,vg,fun _ _=>rfl⟩;have hd:decide ((0:Int)<=a/\(a:Int)<m/\(0:Int)<=b/\(b:Int)<m/\(a:Int)≠(b:Int))=true:=decide_eq_true ⟨by omega,by omega,by omega,by omega,by omega⟩;have hs:=vg.sym a b ha hb;cases hbit:(r a).testBit b
 ·have hB:aeB (m:Int) m (fun v=>(r v:Int)) (a:Int) (b:Int)=true:=by
   unfold aeB;rw[hok,hd];simp[hbit]
  unfold aeX;rw[if_pos hB];simp only[Int.toNat_natCast];have h1:r a^^^2^b=r a|||2^b:=(add_pow_bit hbit).symm.trans (or_of_add hbit);have h2:r b^^^2^a=r b|||2^a:=by
   rw[hbit] at hs;exact(add_pow_bit hs.symm).symm.trans (or_of_add hs.symm)
  unfold addN orP;by_cases e1:j=a
  ·subst e1;rw[if_pos rfl,if_pos rfl,h1]
  ·rw[if_neg e1,if_neg e1];by_cases e2:j=b
   ·subst e2;rw[if_pos rfl,if_pos rfl,h2]
   ·rw[if_neg e2,if_neg e2]
 ·have hB:aeB (m:Int) m (fun v=>(r v:Int)) (a:Int) (b:Int)=false:=by
   unfold aeB;rw[hok,hd];simp[hbit]
  rw[aeX_no hB];have key: ∀ {y i:Nat},y.testBit i=true->y|||2^i=y:=fun {y i} h=>by
   apply Nat.eq_of_testBit_eq;intro k;rw[Nat.testBit_or,Nat.testBit_two_pow];by_cases hk:i=k
   ·subst hk;simp[h]
   ·simp[hk]
  rw[hbit] at hs;unfold orP;by_cases e1:j=a
  ·subst e1;rw[if_pos rfl,key hbit]
  ·rw[if_neg e1];by_cases e2:j=b
   ·subst e2;rw[if_pos rfl,key hs.symm]
   ·rw[if_neg e2]
structure OG (lo:Nat) (w:World) (A:Option Addr) (m c:Nat) (r:Nat->Nat):Prop where
 own:Own w lo w.heap.size 3 1 A m c (fun j=> .int .i64 (r j:Nat))
section
variable {w w':World} {A:Option Addr} {c lo m:Nat} {r:Nat->Nat}
theorem OG.keep (h:OG lo w A m c r) (hb:Below w.heap.size w w'):OG lo w' A m c r:=⟨(h.own.keepB hb nr_).mono nr_ hb.size⟩
theorem OG.gv (h:OG lo w A m c r) (vg:VG m r):GV w A m c r:=⟨vg,h.own.rd⟩
theorem OG.drew (h:OG lo w A m c r):OG lo w.drew A m c r:=⟨h.own.drew⟩
theorem ON.set {q:Nat} {AL:Option Addr} {cL:Nat} {L:List Nat} (h:ON (q+1) w AL cL L) (x y:Value):ON (q+1) ((w.setCell ⟨q,0,none⟩ x).setCell ⟨q,1,none⟩ y) AL cL L:=
 ⟨(h.own.keep (fr2 w q x y) (.inr nr_)).mono nr_ (fr2 w q x y).size⟩
end
theorem LaterNeighbours_sv {A:Option Addr} {m c:Nat} {r:Nat->Nat} {Al:Option Addr} {n cl:Nat} {l:List Int} {w:World} (h:GV w A m c r) (hl:LI w Al n cl l) (hV:VZ m l) (hlen:l.length=m) {v:Int} (hv:v∈l):
 Calls Tryz.prog 302 #[.agg #[.int .i64 m,.slice A m c],.slice Al n cl,.int .i64 v] w fun e w'=>e=.returned (.int .i64 (ltN r l v:Nat))/\Below w.heap.size w w':=by
 have:=LaterNeighbours_s (m:Int) A m c (fun v=>(r v:Int)) Al n cl l v w ⟨h.rd⟩ hl (by have:=h.vg.n7;omega) (by have:=h.vg.n7;rw[hl.len];omega);rwa [ltZ_yes (orB_yes h.ok hV hlen) (hV.2 _ hv),rw_cast] at this
set_option maxRecDepth 100000 in
theorem l6Filled_s (A:Option Addr) (m c:Nat) (r:Nat->Nat) (Al:Option Addr) (cl:Nat) (l:List Int) (w:World) (h:GV w A m c r) (hl:LI w Al m cl l) (hV:VZ m l) (hlen:l.length=m):
 Calls Tryz.prog 229 #[.agg #[.int .i64 m,.slice A m c],.slice Al m cl] w fun e w'=> ∃A' c',e=.returned (.agg #[.int .i64 m,.slice A' m c'])/\OG w.heap.size w' A' m c' (fl r l l.length)/\Below w.heap.size w w':=by
 obtain⟨W,hW⟩: ∃W,W=((w.alloc (Obj.cells #[.int .i64 m,.slice A m c] 26)).alloc (Obj.cells #[.int .i64 0,.slice none 0 0] 26)):=⟨_,rfl⟩;have HB:Hid (From w W):=by rw[hW];exact((From.alloc _ _).alloc_ _)
 have HZ:Hid (w.heap.size+2=W.heap.size):=by rw[hW];simp[Hid]
 have HC:Hid (GC W (w.heap.size+1) 0 none 0 0):=by rw[hW];constructor<;>simp[go_sem]
 have HG:Hid (GC W w.heap.size m A m c):=by rw[hW];constructor<;>simp[go_sem]
 have HK:Hid (GV W A m c r):=h.keep HB.below;have HL:=hh_ hl;have HV:=hh_ hV;have HN:=hh_ hlen;have vg:=h.vg;have hm1:=vg.n1;have hm7:=vg.n7;have HVG:=hh_ vg;have HW:=hh_ hW;obtain⟨e0,e1⟩:=gc_ HG;clear hW h hl hV hlen vg;go_enter Tryz.func229,Tryz.ntmps229;go_wp2_with fail
 rw[<-HW.out];clear HW;refine(l2Copy_any m A m c _ W W.heap.size HK.rd nr_ (by omega)).mono ?_;rintro e wq ⟨A',c',rfl,hO,hb1⟩;clear e0 e1;have z1:=hb1.size;replace HB:=hh_ (HB.keep hb1);replace HC:=hh_ (HC.keep hb1);have HO:Hid (OG (w.heap.size+2) wq A' m c' r):=⟨hO.mono (by have:=HZ.out;omega) nr_⟩;have zw:w.heap.size+2<=wq.heap.size:=by have:=HZ.out;omega
 have hqw:w.heap.size<=wq.heap.size:=by omega
 clear hO hb1 HK HG z1;go_wp2;go_loopw [6] (fun i wr=> ∃(k:Nat) (A4:Option Addr) (c4:Nat),k<=m/\i=.int .i64 k/\Hid (GC wr wq.heap.size m A4 m c4)/\Hid (OG (w.heap.size+2) wr A4 m c4 (fl r l k))/\Hid (From wq wr)) (fun i _=>m-(intOf i).toNat);case atStart=>exact⟨0,A',c',Nat.zero_le _,rfl,GC.new _ _ _ _ _,HO.keep (From.alloc wq _).below,From.alloc _ _⟩
 case round=>
  obtain⟨k,A4,c4,hk,rfl,HQ,HY,HF⟩:=hrel;have zr:=HF.below.size;by_cases hlt:k<m
  ·have HFw:Hid (From w wr):=HB.keep HF.below;have HLr:=hh_ (HL.keep HFw.below);obtain⟨b,o,rfl⟩:=HLr.addr (by omega);have hkl:k<l.length:=by rw[HN.out];exact hlt
   have hmem:=getD_mem hkl;have hvz:=HV.out.2 _ hmem;have Hmem:=hh_ hmem;have HVk:Hid (VG m (fl r l k)):=HVG.fl HV k (by omega);have hs:ltN (fl r l k) l (l.getD k 0)<2^m:=ltN_lt HVk.out hvz.1 hvz.2;have p0:=HLr.at hlt;have HP:Hid (CL wr b (o+k) (.int .i64 (l.getD k 0))):=⟨p0⟩;have Hfl:Hid (fillN (fl r l k) (ltN (fl r l k) l (l.getD k 0))=fl r l (k+1)):=rfl;obtain⟨v,hv⟩: ∃v,v=l.getD k 0:=⟨_,rfl⟩;rw[<-hv] at p0 HP Hfl hs Hmem;obtain⟨s,hse⟩: ∃s,s=ltN (fl r l k) l v:=⟨_,rfl⟩;rw[<-hse] at Hfl hs;have Hse:=hh_ hse;have h2m:=two_pow_le hm7;have hs128:s<128:=by omega
   have i1:(k:Int)<m:=by omega
   clear hv hse p0 hmem hvz;have KL:Hid (∀z:World,Below wr.heap.size wr z->Calls Tryz.prog 302 #[.agg #[.int .i64 m,.slice A4 m c4],.slice (some ⟨b,o,none⟩) m cl,.int .i64 v] z fun e w'=>e=.returned (.int .i64 (s:Nat))/\Below z.heap.size z w'):=fun z hz=>by
    have:=LaterNeighbours_sv ((HY.keep hz).gv HVk.out) (HLr.keep hz) HV HN.out Hmem.out;rwa [<-Hse.out] at this
   have zq:=HQ.lt;obtain⟨L,hL⟩: ∃L,L=listN s:=⟨_,rfl⟩;have HLL:=hh_ hL;clear hL;have KO:Hid (∀z:World,Below wr.heap.size wr z->Calls Tryz.prog 177 #[.int .i64 s] z fun e w'=> ∃A c,e=.returned (.slice A L.length c)/\ON (wq.heap.size+1) w' A c L/\Below z.heap.size z w'):=fun z hz=>by
    rw[HLL.out];exact(ListOf_sv s hs128 z).mono fun _ _ ⟨A,c,h1,h2,h3⟩=>⟨A,c,h1,h2.mono (by have:=hz.size;omega),h3⟩
   have q0:=HQ.c0;have q1:=HQ.c1;have p0:=HP.c;obtain⟨HSC,HZ0,HS1⟩:=hsc3 q0 q1 p0;have KR1:Hid (∀z:World,Below wr.heap.size wr z->_):=fun z hz=>KL.out z hz
   have KR2:Hid (∀z:World,Below wr.heap.size wr z->_):=fun z hz=>KO.out z hz
   go_wp2;go_region_held3 (fun z=>Below wr.heap.size wr z/\z.cell? ⟨wq.heap.size,0,none⟩=some (.int .i64 m)/\z.cell? ⟨wq.heap.size,1,none⟩=some (.slice A4 m c4)/\z.cell? ⟨b,o+k,none⟩=some (.int .i64 v))
    (first|exact HS1.out|assumption|exact HSC.out _ hz2|exact HSC.out _ hz1|fail)
    (first|(go_at_call 302;((with_reducible refine(KR1.out _ HZ0.out).mono ?_);rintro e w1 ⟨rfl,hb1⟩;have hz1:=bl_trans HZ0.out hb1))|(go_at_call 177;((with_reducible refine(KR2.out _ hz1).mono ?_);rintro e w2 ⟨AL,cL,rfl,hON,hb2⟩;have hz2:=bl_trans hz1 hb2)))
   clear q0 q1 p0;replace HQ:=hh_ (HQ.keep hz2);replace HY:=hh_ (HY.keep hz2);replace HFw:=hh_ (HFw.keep hz2);replace HLr:=hh_ (HLr.keep hz2);replace HP:=hh_ (HP.keep hz2);replace HF:=hh_ (HF.keep hz2);clear hb1 hz1 hb2 hz2 HSC HZ0 HS1 KR1 KR2;have q0:=HQ.c0;have q1:=HQ.c1;have p0:=HP.c;obtain⟨R,hR⟩: ∃R,R=fl r l k:=⟨_,rfl⟩;rw[<-hR] at HVk Hfl HY;have hfold:=fold_fill R hs hm7;rw[<-HLL.out,Hfl.out] at hfold;have Hfold:=hh_ hfold;have hL7:L.length<=7:=by rw[HLL.out];exact listN_len s
   have HON:=hh_ hON;have Hs:=hh_ hs;have zw3:=HF.below.size;have HFk:=HF;clear hR hfold hON hs Hse KL KO HP HLr HFw p0 q0 q1 hkl Hmem hs128;go_wp2;go_loopw [8] (fun i wr=> ∃(a:Nat) (A5:Option Addr) (c5:Nat),a<=L.length/\i=.int .i64 a/\Hid (GC wr wq.heap.size m A5 m c5)/\Hid (OG (w.heap.size+2) wr A5 m c5 (foldP R (psN L a 0)))/\Hid (ON (wq.heap.size+1) wr AL cL L)/\Hid (From wq wr)) (fun i _=>L.length-(intOf i).toNat);case atStart=>exact⟨0,A4,c4,Nat.zero_le _,rfl,HQ,HY,HON,HF⟩
   case round=>
    clear HQ HY HON HF HFk zw3;obtain⟨a,A5,c5,ha,rfl,HQ,HY,HON,HF⟩:=hrel;by_cases hal:a<L.length
    ·have i2:(a:Int)<L.length:=by omega
     go_wp2;go_loopw [9] (fun i wr=> ∃(b:Nat) (A5:Option Addr) (c5:Nat),b<=a/\i=.int .i64 b/\Hid (GC wr wq.heap.size m A5 m c5)/\Hid (OG (w.heap.size+2) wr A5 m c5 (foldP R (psN L a b)))/\Hid (ON (wq.heap.size+1) wr AL cL L)/\Hid (From wq wr)) (fun i _=>a-(intOf i).toNat);case atStart=>exact⟨0,A5,c5,Nat.zero_le _,rfl,HQ,HY,HON,HF⟩
     case round=>
      clear HQ HY HON HF;obtain⟨j,A5,c5,hj,rfl,HQ,HY,HON,HF⟩:=hrel;by_cases hja:j<a
      ·obtain⟨va,hva⟩: ∃va,va=L.getD a 0:=⟨_,rfl⟩;obtain⟨vb,hvb⟩: ∃vb,vb=L.getD j 0:=⟨_,rfl⟩;have hjl:j<L.length:=by omega
       obtain⟨bL,oL,rfl⟩:=HON.ln.addr (by omega);have d2:wr.drew.cell? ⟨bL,oL+a,none⟩=some (.int .i64 (va:Nat)):=by rw[hva];have:=HON.ln.at hal;simpa [List.getD,hal] using this
       have d3:wr.drew.cell? ⟨bL,oL+j,none⟩=some (.int .i64 (vb:Nat)):=by rw[hvb];have:=HON.ln.at hjl;simpa [List.getD,hjl] using this
       have d0:wr.drew.cell? ⟨wq.heap.size,0,none⟩=some (.int .i64 m):=HQ.c0;have d1:wr.drew.cell? ⟨wq.heap.size,1,none⟩=some (.slice A5 m c5):=HQ.c1;have hvam:va<m:=by rw[hva,HLL.out];exact listN_lt Hs.out (by rw[<-HLL.out];exact hal)
       have hvbm:vb<m:=by rw[hvb,HLL.out];exact listN_lt Hs.out (by rw[<-HLL.out];exact hjl)
       have hne:va≠vb:=by rw[hva,hvb,HLL.out];exact getD_ne (by rw[<-HLL.out];exact hal) (by rw[<-HLL.out];exact hjl) (by omega)
       have hvg:VG m (foldP R (psN L a j)):=HVk.foldP _ (by rw[HLL.out];exact psN_in Hs.out (.inl ⟨by rw[<-HLL.out];exact hal,by omega⟩));have Hnext:Hid (foldP R (psN L a (j+1))=orP (foldP R (psN L a j)) va vb):=by show _=_;rw[psN_step,foldP_one,hva,hvb]
       have i3:(j:Int)<a:=by omega
       have i4:(j:Int)<L.length:=by omega
       have KA:Hid (Calls Tryz.prog 91 #[.agg #[.int .i64 m,.slice A5 m c5],.int .i64 va,.int .i64 vb] wr.drew fun e w'=> ∃A' c',e=.returned (.tuple #[.agg #[.int .i64 m,.slice A' m c'],.bool (aeB m m (fun v=>(foldP R (psN L a j) v:Int)) va vb)])/\OG (wq.heap.size+1) w' A' m c' (foldP R (psN L a (j+1)))/\Below wr.drew.heap.size wr.drew w'):=
        (AddEdge_s m A5 m c5 (fun v=>(foldP R (psN L a j) v:Int)) va vb wr.drew wr.drew.heap.size (HY.drew.gv hvg).rd nr_ (by omega)).mono fun _ _ ⟨A',c',h1,h2,h3⟩=>
          ⟨A',c',h1,⟨(h2.congr (fun i hi=>by rw[Hnext.out,aeX_or hvg hvam hvbm hne])).mono (by have:wq.heap.size<wr.drew.heap.size:=HQ.lt;omega) nr_⟩,h3⟩
       have HSB:Hid (Below w.heap.size w wr.drew):=(HB.keep HF.below).drew.below;have HQd:Hid (GC wr.drew wq.heap.size m A5 m c5):=HQ.drew;have HONd:Hid (ON (wq.heap.size+1) wr.drew (some ⟨bL,oL,none⟩) cL L):=⟨HON.own.drew⟩;have HFd:Hid (From wq wr.drew):=HF.drew;have Hqw:=hh_ hqw;clear hva hvb hvam hvbm hne hvg hqw HQ HON HF HY;go_wp2;go_region_with (first|(go_at_call 91;((with_reducible refine KA.out.mono ?_);rintro e w5 ⟨A6,c6,rfl,hO5,hb5⟩;have hn5:=HQd.out.keep hb5;have n0:=hn5.c0;have n1:=hn5.c1;have n2:=hn5.f0;have n3:=hn5.f1)))
       all_goals
        have HQ5:Hid (GC ((w5.setCell ⟨wq.heap.size,0,none⟩ (.int .i64 m)).setCell ⟨wq.heap.size,1,none⟩ (.slice A6 m c6)) wq.heap.size m A6 m c6):=hn5.set;have HO5:Hid (OG (w.heap.size+2) ((w5.setCell ⟨wq.heap.size,0,none⟩ (.int .i64 m)).setCell ⟨wq.heap.size,1,none⟩ (.slice A6 m c6)) A6 m c6 (foldP R (psN L a (j+1)))):=
         ⟨(hO5.own.keep (fr2 w5 wq.heap.size _ _) (.inr nr_)).mono (by omega) (fr2 w5 wq.heap.size _ _).size⟩
        have HON5:Hid (ON (wq.heap.size+1) ((w5.setCell ⟨wq.heap.size,0,none⟩ (.int .i64 m)).setCell ⟨wq.heap.size,1,none⟩ (.slice A6 m c6)) (some ⟨bL,oL,none⟩) cL L):=(HONd.keep hb5).set _ _;have HF5:Hid (From wq ((w5.setCell ⟨wq.heap.size,0,none⟩ (.int .i64 m)).setCell ⟨wq.heap.size,1,none⟩ (.slice A6 m c6))):=(HFd.keep hb5).set nr_ _ _;clear hn5 n0 n1 n2 n3 hO5 hb5 d0 d1 d2 d3;go_wp2;go_roundw;case rel=>exact⟨j+1,A6,c6,by omega,by go_num,HQ5,HO5,HON5,HF5⟩
        case measure=>simp[intOf];omega
      ·obtain rfl:j=a:=by omega
       have Hrow:=hh_ (psN_row L j);go_wp2;go_roundw;case rel=>exact⟨j+1,A5,c5,by omega,by go_num,HQ,by rw[Hrow.out];exact HY,HON,HF⟩
       case measure=>simp[intOf];omega
    ·obtain rfl:a=L.length:=by omega
     rw[Hfold.out] at HY;go_wp2;go_roundw;case rel=>exact⟨k+1,A5,c5,by omega,by go_num,HQ,HY,HF⟩
     case measure=>simp[intOf];omega
  ·obtain rfl:m=k:=by omega
   have HCr:=hh_ (HC.keep HF.below);have HBr:=hh_ (HB.keep HF.below);have q0:=HQ.c0;have q1:=HQ.c1;have k0:=HCr.c0;have k1:=HCr.c1;have k2:=HCr.f0;have k3:=HCr.f1;go_wp2;have F:=fr2 wr (w.heap.size+1) (Value.int .i64 m) (Value.slice A4 m c4);have O1:=(HY.own.keep F (.inr nr_)).mono (lo':=w.heap.size) (by omega) F.size;rw[HN.out];exact bodyPost_ret (v:=.agg #[.int .i64 m,.slice A4 m c4]) (by simp[results,Tryz.results229,go_sem,k0,k1]) rfl ⟨A4,c4,rfl,⟨O1⟩,(HBr.set (q:=w.heap.size+1) (by omega) _ _).below⟩
end Go.Proofs.YtfabbohijhjpcaaGreatDoor
