/- Lemmas. -/
import Derived.Test.YtfabbohijhjpcaaGreatDoorRbGC
import Derived.Lib.Split
import Derived.ProofKit
import Derived.OpenShut
import Derived.ShutString
import Derived.Lib.SmallJoins
import Derived.Carry
import Derived.Deep.Slices
import Derived.Deep.Fields
import Derived.ChangeSame
/-
-/
namespace Go.Proofs.YtfabbohijhjpcaaGreatDoor
theorem sub_pow_bit {a u:Nat} (h:a.testBit u=true):a-2^u=a^^^2^u/\2^u<=a:=by
 have h1:(a^^^2^u).testBit u=false:=by rw[Nat.testBit_xor,h,Nat.testBit_two_pow_self];rfl
 have h2:=add_pow_bit h1;have h3:(a^^^2^u)^^^2^u=a:=by rw[Nat.xor_assoc,Nat.xor_self,Nat.xor_zero]
 rw[h3] at h2;generalize 2^u=p at *;omega
noncomputable def reB (sz:Int) (m:Nat) (x:Nat->Int) (v u:Int):Bool:=okB sz m x&&decide (0<=v/\v<sz/\0<=u/\u<sz/\v≠u)&&((x v.toNat).toNat.testBit u.toNat)
noncomputable def reX (sz:Int) (m:Nat) (x:Nat->Int) (v u:Int):Nat->Int:=if reB sz m x v u=true then fun j=>((addN (fun i=>(x i).toNat) v.toNat u.toNat j:Nat):Int) else x
theorem reX_no {sz:Int} {m:Nat} {x:Nat->Int} {v u:Int} (h:reB sz m x v u=false):reX sz m x v u=x:=by unfold reX;rw[h];rfl
theorem reB_parts {sz:Int} {m:Nat} {x:Nat->Int} {v u:Int} (h:reB sz m x v u=true):okB sz m x=true/\(0<=v/\v<sz/\0<=u/\u<sz/\v≠u)/\(x v.toNat).toNat.testBit u.toNat=true:=by
 unfold reB at h;simp only[Bool.and_eq_true,decide_eq_true_eq] at h;exact⟨h.1.1,h.1.2,h.2⟩
theorem reX_ok {sz:Int} {m:Nat} {x:Nat->Int} {v u:Int} (h:okB sz m x=true):okB sz m (reX sz m x v u)=true:=by
 cases hb:reB sz m x v u
 ·rw[reX_no hb];exact h
 ·obtain⟨_,⟨h1,h2,h3,h4,h5⟩,h6⟩:=reB_parts hb;obtain⟨r,rfl,vg,hx⟩:=okB_ok' h;refine okB_yes ⟨addN (fun i=>(x i).toNat) v.toNat u.toNat,rfl,?_,fun i hi=> ?_⟩
  ·exact(vg.congr (s:=fun i=>(x i).toNat) (fun i hi=>by show r i=(x i).toNat;rw[hx i hi];simp)).add (by omega) (by omega) (by omega)
  ·unfold reX;rw[hb];rfl
theorem reB_val {m:Nat} {x:Nat->Int} {n k:Nat} (h:okB m m x=true) (hn:n<m) (hk:k<m):reB m m x n k=(x n).toNat.testBit k:=by
 obtain⟨r,_,vg,hx⟩:=okB_ok' h;unfold reB;rw[h,Int.toNat_natCast,Int.toNat_natCast];by_cases hne:n=k
 ·subst hne;rw[hx n hn,Int.toNat_natCast,vg.irr n hn];simp
 ·rw[decide_eq_true (⟨by omega,by omega,by omega,by omega,by omega⟩:0<=(n:Int)/\(n:Int)<m/\0<=(k:Int)/\(k:Int)<m/\(n:Int)≠k)];simp
theorem reB_out {m:Nat} {x:Nat->Int} {v u:Int} (h: ¬(0<=v/\v<m/\0<=u/\u<m)):reB m m x v u=false:=by
 cases hb:reB m m x v u
 ·rfl
 ·obtain⟨_,⟨h1,h2,h3,h4,h5⟩,h6⟩:=reB_parts hb;exact absurd ⟨h1,h2,h3,h4⟩ h
noncomputable def apB (a:Bool) (sz:Int) (m:Nat) (x:Nat->Int) (v u:Int):Bool:=if a then aeB sz m x v u else reB sz m x v u
noncomputable def apX (a:Bool) (sz:Int) (m:Nat) (x:Nat->Int) (v u:Int):Nat->Int:=if a then aeX sz m x v u else reX sz m x v u
theorem apX_ok {a:Bool} {sz:Int} {m:Nat} {x:Nat->Int} {v u:Int} (h:okB sz m x=true):okB sz m (apX a sz m x v u)=true:=by
 unfold apX;split
 ·exact aeX_ok h
 ·exact reX_ok h
noncomputable def apF (sz:Int) (m:Nat) (a:Nat->Bool) (v u:Nat->Int):Nat->Nat->(Nat->Int)->Option (Nat->Int)
 |_,0,x=>some x
 |k,r+1,x=>if apB (a k) sz m x (v k) (u k)=true then apF sz m a v u (k+1) r (apX (a k) sz m x (v k) (u k)) else none
noncomputable def apR (sz:Int) (m:Nat) (x:Nat->Int) (n:Nat) (a:Nat->Bool) (v u:Nat->Int):Option (Nat->Int):=if okB sz m x=true/\n<=12 then apF sz m a v u 0 n x else none
noncomputable def apD (sz:Int) (m:Nat) (x:Nat->Int) (n:Nat) (a:Nat->Bool) (v u:Nat->Int):Bool:=(apR sz m x n a v u).isSome
noncomputable def apN (sz:Int) (m:Nat) (x:Nat->Int) (n:Nat) (a:Nat->Bool) (v u:Nat->Int):Nat:=if apD sz m x n a v u=true then m else 0
noncomputable def apZ (sz:Int) (m:Nat) (x:Nat->Int) (n:Nat) (a:Nat->Bool) (v u:Nat->Int):Int:=if apD sz m x n a v u=true then sz else 0
noncomputable def apY (sz:Int) (m:Nat) (x:Nat->Int) (n:Nat) (a:Nat->Bool) (v u:Nat->Int):Nat->Int:=(apR sz m x n a v u).getD x
section
variable {sz:Int} {m:Nat} {x y:Nat->Int} {n k r:Nat} {a:Nat->Bool} {v u:Nat->Int}
theorem apN_le:apN sz m x n a v u<=m:=by unfold apN;split<;>omega
theorem ap_none (h:apR sz m x n a v u=none):apD sz m x n a v u=false/\apN sz m x n a v u=0/\apZ sz m x n a v u=0:=by
 have hb:apD sz m x n a v u=false:=by unfold apD;rw[h];rfl
 exact⟨hb,by unfold apN;rw[hb];rfl,by unfold apZ;rw[hb];rfl⟩
theorem ap_some (h:apR sz m x n a v u=some y):apD sz m x n a v u=true/\apN sz m x n a v u=m/\apZ sz m x n a v u=sz/\apY sz m x n a v u=y:=by
 have hb:apD sz m x n a v u=true:=by unfold apD;rw[h];rfl
 exact⟨hb,by unfold apN;rw[hb];rfl,by unfold apZ;rw[hb];rfl,by unfold apY;rw[h];rfl⟩
theorem apR_no (h:okB sz m x=false):apR sz m x n a v u=none:=by unfold apR;rw[h];rfl
theorem apR_long (h:12<n):apR sz m x n a v u=none:=by unfold apR;rw[if_neg];omega
theorem apR_yes (h:okB sz m x=true) (hn:n<=12):apR sz m x n a v u=apF sz m a v u 0 n x:=by unfold apR;rw[if_pos ⟨h,hn⟩]
theorem apF_no (h:apB (a k) sz m x (v k) (u k)=false):apF sz m a v u k (r+1) x=none:=by
 unfold apF;rw[h];rfl
theorem apF_yes (h:apB (a k) sz m x (v k) (u k)=true):apF sz m a v u k (r+1) x=apF sz m a v u (k+1) r (apX (a k) sz m x (v k) (u k)):=by
 rw[apF,if_pos h]
end
def EqR (m:Nat) (x y:Nat->Int):Prop:= ∀j,j<m->x j=y j
section
variable {sz:Int} {m n k r:Nat} {x y z:Nat->Int} {a:Nat->Bool} {v u:Nat->Int}
theorem EqR.refl (x:Nat->Int):EqR m x x:=fun _ _=>rfl
theorem EqR.symm (h:EqR m x y):EqR m y x:=fun j hj=>(h j hj).symm
theorem EqR.trans (h:EqR m x y) (g:EqR m y z):EqR m x z:=fun j hj=>(h j hj).trans (g j hj)
theorem EqR.ok (h:EqR m x y):okB sz m x=okB sz m y:=by
 have one: ∀ {x y:Nat->Int},EqR m x y->okB sz m x=true->okB sz m y=true:=by
  intro x y h ho;obtain⟨r,rfl,vg,hx⟩:=okB_ok' ho;exact okB_yes ⟨r,rfl,vg,fun i hi=>by rw[<-h i hi];exact hx i hi⟩
 cases h1:okB sz m x
 ·cases h2:okB sz m y
  ·rfl
  ·rw[one h.symm h2] at h1;cases h1
 ·exact(one h h1).symm
theorem apB_parts {b:Bool} {p q:Int} (h:apB b sz m x p q=true):okB sz m x=true/\(0<=p/\p<sz/\0<=q/\q<sz/\p≠q)/\(x p.toNat).toNat.testBit q.toNat= !b:=by
 cases b
 ·obtain⟨h1,h2,h3⟩:=reB_parts (show reB sz m x p q=true from h);exact⟨h1,h2,h3⟩
 ·obtain⟨h1,h2,h3⟩:=aeB_parts (show aeB sz m x p q=true from h);exact⟨h1,h2,h3⟩
theorem apB_of {b:Bool} {p q:Int} (h1:okB sz m x=true) (h2:0<=p/\p<sz/\0<=q/\q<sz/\p≠q) (h3:(x p.toNat).toNat.testBit q.toNat= !b):apB b sz m x p q=true:=by
 cases b
 ·show reB sz m x p q=true;unfold reB;rw[h1,decide_eq_true h2,h3];rfl
 ·show aeB sz m x p q=true;unfold aeB;rw[h1,decide_eq_true h2,h3];rfl
theorem apX_of {b:Bool} {p q:Int} (h:apB b sz m x p q=true):apX b sz m x p q=fun j=>((addN (fun i=>(x i).toNat) p.toNat q.toNat j:Nat):Int):=by
 cases b
 ·show reX sz m x p q=_;unfold reX;rw[if_pos (show reB sz m x p q=true from h)]
 ·show aeX sz m x p q=_;unfold aeX;rw[if_pos (show aeB sz m x p q=true from h)]
theorem EqR.apB {b:Bool} {p q:Int} (h:EqR m x y) (ha:apB b sz m x p q=true):apB b sz m y p q=true:=by
 obtain⟨h1,h2,h3⟩:=apB_parts ha;obtain⟨r,es,_,_⟩:=okB_ok' h1;exact apB_of (by rw[<-h.ok];exact h1) h2 (by rw[<-h p.toNat (by omega)];exact h3)
theorem EqR.apX {b:Bool} {p q:Int} (h:EqR m x y) (ha:Go.Proofs.YtfabbohijhjpcaaGreatDoor.apB b sz m x p q=true):EqR m (apX b sz m x p q) (apX b sz m y p q):=by
 rw[apX_of ha,apX_of (h.apB ha)];intro j hj;show ((addN _ _ _ j:Nat):Int)=((addN _ _ _ j:Nat):Int);unfold addN;dsimp only;rw[h j hj]
theorem addN_two {r:Nat->Nat} {p q:Nat} (h:p≠q):addN (addN r p q) p q=r:=by
 funext j
 unfold addN;by_cases e1:j=p
 ·subst e1;rw[if_pos rfl,if_pos rfl,Nat.xor_assoc,Nat.xor_self,Nat.xor_zero]
 ·rw[if_neg e1,if_neg e1];by_cases e2:j=q
  ·subst e2;rw[if_pos rfl,if_pos rfl,Nat.xor_assoc,Nat.xor_self,Nat.xor_zero]
  ·rw[if_neg e2,if_neg e2]
theorem ap_undo {b:Bool} {p q:Int} (ha:apB b sz m x p q=true):apB (!b) sz m (apX b sz m x p q) p q=true/\EqR m (apX (!b) sz m (apX b sz m x p q) p q) x:=by
 obtain⟨h1,h2,h3⟩:=apB_parts ha;obtain⟨r,es,vg,hx⟩:=okB_ok' h1;have hpq:p.toNat≠q.toNat:=by omega
 have e:=apX_of ha;have hb:apB (!b) sz m (apX b sz m x p q) p q=true:=by
  refine apB_of (apX_ok h1) h2 ?_;rw[e];show (addN (fun i=>(x i).toNat) p.toNat q.toNat p.toNat).testBit q.toNat= !!b;unfold addN;rw[if_pos rfl,Nat.testBit_xor,h3,Nat.testBit_two_pow_self];cases b<;>rfl
 refine⟨hb,?_⟩;rw[apX_of hb,e];intro j hj;show ((addN (addN (fun i=>(x i).toNat) p.toNat q.toNat) p.toNat q.toNat j:Nat):Int)=x j;rw[addN_two hpq,hx j hj];rfl
theorem apF_snoc: ∀(r k:Nat) (x:Nat->Int),apF sz m a v u k (r+1) x=(apF sz m a v u k r x).bind fun z=>if apB (a (k+r)) sz m z (v (k+r)) (u (k+r))=true then some (apX (a (k+r)) sz m z (v (k+r)) (u (k+r))) else none
 |0,k,x=>by
  rw[show apF sz m a v u k 0 x=some x from rfl,Option.bind_some]
  show (if _ then apF sz m a v u (k+1) 0 _ else none)=_
  rfl
 |r+1,k,x=>by
  rw[show apF sz m a v u k (r+1+1) x=(if apB (a k) sz m x (v k) (u k)=true then apF sz m a v u (k+1) (r+1) (apX (a k) sz m x (v k) (u k)) else none) from rfl]
  rw[show apF sz m a v u k (r+1) x=(if apB (a k) sz m x (v k) (u k)=true then apF sz m a v u (k+1) r (apX (a k) sz m x (v k) (u k)) else none) from rfl]
  split
  ·rw[apF_snoc r (k+1),show k+1+r=k+(r+1) by omega]
  ·rfl
theorem apF_undo (hn:apF sz m a v u 0 n x=some y): ∀i,i<=n-> ∃z s,apF sz m (fun j=> !a (n-1-j)) (fun j=>v (n-1-j)) (fun j=>u (n-1-j)) 0 i y=some z/\apF sz m a v u 0 (n-i) x=some s/\EqR m z s:=by
 intro i;induction i with
 |zero=>intro _;exact⟨y,y,rfl,hn,EqR.refl _⟩
 |succ i ih=>
  intro hi;obtain⟨z,s,h1,h2,h3⟩:=ih (by omega);have e:n-i=(n-(i+1))+1:=by omega
  rw[e,apF_snoc] at h2;obtain⟨t,ht,hs⟩:=Option.bind_eq_some_iff.1 h2;rw[Nat.zero_add] at hs;split at hs
  ·rename_i hb;injection hs with hs
   obtain⟨k1,k2⟩:=ap_undo hb;rw[hs] at k1 k2;have k3:=h3.symm.apB k1;refine⟨apX (!a (n-(i+1))) sz m z (v (n-(i+1))) (u (n-(i+1))),t,?_,ht,(h3.symm.apX k1).symm.trans k2⟩;rw[apF_snoc,h1,Option.bind_some];have e3:n-1-(0+i)=n-(i+1):=by omega
   rw[e3,if_pos k3]
  ·cases hs
theorem apR_undo (h:apR sz m x n a v u=some y): ∃z,apR sz m y n (fun j=> !a (n-1-j)) (fun j=>v (n-1-j)) (fun j=>u (n-1-j))=some z/\EqR m z x:=by
 unfold apR at h;split at h
 ·rename_i hh;obtain⟨z,s,h1,h2,h3⟩:=apF_undo h n nr_;rw[Nat.sub_self] at h2;injection (h2:some x=some s) with h2
  subst h2;refine⟨z,?_,h3⟩;have hy:okB sz m y=true:=by
   have: ∀(r k:Nat) (x:Nat->Int),okB sz m x=true-> ∀y,apF sz m a v u k r x=some y->okB sz m y=true:=by
    intro r;induction r with
    |zero=>intro k x hx y hy;injection hy with hy;rw[<-hy];exact hx
    |succ r ih=>
     intro k x hx y hy;rw[show apF sz m a v u k (r+1) x=(if apB (a k) sz m x (v k) (u k)=true then apF sz m a v u (k+1) r (apX (a k) sz m x (v k) (u k)) else none) from rfl] at hy;split at hy
     ·exact ih _ _ (apX_ok hx) y hy
     ·cases hy
   exact this n 0 x hh.1 y h
  unfold apR;rw[if_pos ⟨hy,hh.2⟩];exact h1
 ·cases h
end
def tgF (r:Nat->Nat):List (Nat×Nat)->(Nat->Nat)
 | []=>r
 |p::P=>tgF (addN r p.1 p.2) P
theorem addN_bit {r:Nat->Nat} {p q i j:Nat} (h:p<q) (hij:i<j):(addN r p q i).testBit j=((r i).testBit j^^decide ((i,j)=(p,q))):=by
 unfold addN;by_cases e1:i=p
 ·subst e1;rw[if_pos rfl,Nat.testBit_xor,Nat.testBit_two_pow];congr 1;by_cases e2:q=j
  ·subst e2;simp
  ·have e3: ¬j=q:=fun h=>e2 h.symm
   simp[e2,e3]
 ·rw[if_neg e1];have e0: ¬(i,j)=(p,q):=fun h=>e1 (Prod.mk.inj h).1
  rw[decide_eq_false e0,Bool.xor_false];by_cases e2:i=q
  ·subst e2;rw[if_pos rfl,Nat.testBit_xor,Nat.testBit_two_pow];have: ¬p=j:=by omega
   simp[this]
  ·rw[if_neg e2]
theorem tgF_bit {i j:Nat} (hij:i<j): ∀(P:List (Nat×Nat)) (r:Nat->Nat),(∀p∈P,p.1<p.2)->P.Nodup->(tgF r P i).testBit j=((r i).testBit j^^P.contains (i,j))
 | [],r,_,_=>by show (r i).testBit j=_;simp
 |p::P,r,hp,hn=>by
  rw[List.nodup_cons] at hn
  show (tgF (addN r p.1 p.2) P i).testBit j=_
  rw[tgF_bit hij P _ (fun q hq=>hp q (List.mem_cons_of_mem _ hq)) hn.2,addN_bit (hp p List.mem_cons_self) hij,List.contains_cons]
  by_cases e:(i,j)=p
  ·have h1:P.contains (i,j)=false:=by
    cases h:P.contains (i,j)
    ·rfl
    ·exact absurd (by rw[<-e];simpa using h) hn.1
   rw[h1,<-e];simp
  ·have h1:((i,j)==p)=false:=by simpa using e
   have h2: ¬(i,j)=(p.1,p.2):=e;rw[h1,decide_eq_false h2];simp
theorem tgF_vg {m:Nat}: ∀(P:List (Nat×Nat)) (r:Nat->Nat),VG m r->(∀p∈P,p.1<p.2/\p.2<m)->VG m (tgF r P)
 | [],_,h,_=>h
 |p::P,r,h,hp=>by
  obtain⟨h1,h2⟩:=hp p List.mem_cons_self
  exact tgF_vg P _ (h.add (by omega) h2 (by omega)) (fun q hq=>hp q (List.mem_cons_of_mem _ hq))
theorem vg_eq {m:Nat} {r s:Nat->Nat} (hr:VG m r) (hs:VG m s) (h: ∀i j,i<j->j<m->(r i).testBit j=(s i).testBit j): ∀i,i<m->r i=s i:=by
 intro i hi;refine Nat.eq_of_testBit_eq fun j=> ?_
 by_cases hj:j<m
 ·rcases Nat.lt_trichotomy i j with h1|h1|h1
  ·exact h i j h1 hj
  ·subst h1;rw[hr.irr i hi,hs.irr i hi]
  ·rw[hr.sym i j hi hj,hs.sym i j hi hj];exact h j i h1 hi
 ·have hp:2^m<=2^j:=Nat.pow_le_pow_right (by omega) (by omega);rw[Nat.testBit_lt_two_pow (Nat.lt_of_lt_of_le (hr.lt i hi) hp),Nat.testBit_lt_two_pow (Nat.lt_of_lt_of_le (hs.lt i hi) hp)]
theorem ap_run {m:Nat}: ∀(L:List (Bool×Nat×Nat)) (x:Nat->Int) (a:Nat->Bool) (v u:Nat->Int) (k:Nat),okB (m:Int) m x=true->(L.map (·.2)).Nodup->
 (∀e∈L,e.2.1<e.2.2/\e.2.2<m/\(x e.2.1).toNat.testBit e.2.2= !e.1)->
 (∀j e,L[j]? =some e->a (k+j)=e.1/\v (k+j)=(e.2.1:Int)/\u (k+j)=(e.2.2:Int))->
 ∃y,apF (m:Int) m a v u k L.length x=some y/\EqR m y (fun j=>((tgF (fun i=>(x i).toNat) (L.map (·.2)) j:Nat):Int))
 | [],x,a,v,u,k,ho,_,_,_=>by
   refine⟨x,rfl,fun j hj=> ?_⟩
   obtain⟨r,_,_,hx⟩:=okB_ok' ho
   show x j=(((x j).toNat:Nat):Int)
   rw[hx j hj];rfl
 |e::L,x,a,v,u,k,ho,hn,hL,hf=>by
  rw[List.map_cons,List.nodup_cons] at hn
  obtain⟨h1,h2,h3⟩:=hL e List.mem_cons_self
  obtain⟨f1,f2,f3⟩:=hf 0 e rfl
  rw[Nat.add_zero] at f1 f2 f3
  have hb:apB e.1 (m:Int) m x (e.2.1:Int) (e.2.2:Int)=true:=apB_of ho ⟨by omega,by omega,by omega,by omega,by omega⟩ h3
  have hX:=apX_of hb
  obtain⟨y,hy,he⟩:=ap_run L (apX e.1 (m:Int) m x (e.2.1:Int) (e.2.2:Int)) a v u (k+1) (apX_ok ho) hn.2 (fun d hd=>by
   obtain⟨g1,g2,g3⟩:=hL d (List.mem_cons_of_mem _ hd)
   refine⟨g1,g2,?_⟩
   rw[hX]
   show (addN (fun i=>(x i).toNat) e.2.1 e.2.2 d.2.1).testBit d.2.2= !d.1
   rw[addN_bit h1 g1]
   have hne: ¬(d.2.1,d.2.2)=(e.2.1,e.2.2):=fun h=>hn.1 (by
    have h5:d.2=e.2:=h
    rw[<-h5];exact List.mem_map_of_mem hd)
   rw[decide_eq_false hne,Bool.xor_false]
   exact g3) (fun j d hd=>by
   have:=hf (j+1) d (by simpa using hd)
   rwa [show k+(j+1)=k+1+j by omega] at this)
  refine⟨y,?_,?_⟩
  ·show (if apB (a k) (m:Int) m x (v k) (u k)=true then apF (m:Int) m a v u (k+1) L.length (apX (a k) (m:Int) m x (v k) (u k)) else none)=some y
   rw[f1,f2,f3,if_pos hb]
   exact hy
  ·rw[hX] at he
   exact he
theorem pr_nodup2 (n:Nat):(pr n).Nodup:=by
 unfold pr List.Nodup;rw[List.pairwise_flatMap];refine⟨fun v _=> ?_,List.Pairwise.imp ?_ List.pairwise_lt_range⟩
 ·unfold prRow;rw[List.pairwise_map];refine List.Pairwise.imp ?_ List.pairwise_lt_range';rintro a b hab ⟨⟩;omega
 ·intro a b hab p hp q hq e;unfold prRow at hp hq;rw[List.mem_map] at hp hq;obtain⟨_,_,rfl⟩:=hp;obtain⟨_,_,rfl⟩:=hq;injection e with e
  omega
theorem eb_lead {m:Nat} {x1 x2:Nat->Int} (h1:okB (m:Int) m x1=true) (h2:okB (m:Int) m x2=true):
 ∃y,apF (m:Int) m (fun i=>((ebT m x1 x2).getD i ed0).1) (fun i=>((ebT m x1 x2).getD i ed0).2.1) (fun i=>((ebT m x1 x2).getD i ed0).2.2) 0 (ebT m x1 x2).length x1=some y/\EqR m y x2:=by
 obtain⟨r1,_,vg1,hx1⟩:=okB_ok' h1;obtain⟨r2,_,vg2,hx2⟩:=okB_ok' h2;obtain⟨P1,hP1⟩: ∃P,P=(pr m).filter (dOne x1 x2):=⟨_,rfl⟩;obtain⟨P2,hP2⟩: ∃P,P=(pr m).filter (dOne x2 x1):=⟨_,rfl⟩;have m1: ∀p,p∈P1↔(p.1<p.2/\p.2<m)/\dOne x1 x2 p=true:=fun p=>by rw[hP1,List.mem_filter,mem_pr]
 have m2: ∀p,p∈P2↔(p.1<p.2/\p.2<m)/\dOne x2 x1 p=true:=fun p=>by rw[hP2,List.mem_filter,mem_pr]
 obtain⟨L,hL⟩: ∃L:List (Bool×Nat×Nat),L=P1.map (fun p=>(false,p))++P2.map (fun p=>(true,p)):=⟨_,rfl⟩;have hT:ebT m x1 x2=L.map fun e=>(e.1,(e.2.1:Int),(e.2.2:Int)):=by
  unfold ebT eR;rw[hL,List.map_append,List.map_map,List.map_map,hP1,hP2];rfl
 have hM:L.map (·.2)=P1++P2:=by
  rw[hL,List.map_append,List.map_map,List.map_map];congr 1
  ·exact List.map_id P1
  ·exact List.map_id P2
 have hnd:(P1++P2).Nodup:=by
  rw[List.nodup_append];refine⟨by rw[hP1];exact(pr_nodup2 m).filter _,by rw[hP2];exact(pr_nodup2 m).filter _,fun p hp q hq e=> ?_⟩;subst e;have a1:=((m1 p).1 hp).2;have a2:=((m2 p).1 hq).2;unfold dOne at a1 a2;rw[Bool.and_eq_true] at a1 a2;rw[a2.1] at a1;simp at a1
 have hall: ∀p∈P1++P2,p.1<p.2/\p.2<m:=fun p hp=>by
  rcases List.mem_append.1 hp with hp|hp
  ·exact((m1 p).1 hp).1
  ·exact((m2 p).1 hp).1
 obtain⟨y,hy,he⟩:=ap_run L x1 (fun i=>((ebT m x1 x2).getD i ed0).1) (fun i=>((ebT m x1 x2).getD i ed0).2.1) (fun i=>((ebT m x1 x2).getD i ed0).2.2) 0 h1 (by rw[hM];exact hnd) (fun e hm=>by
  rw[hL] at hm;rcases List.mem_append.1 hm with hm|hm
  ·obtain⟨p,hp,rfl⟩:=List.mem_map.1 hm;obtain⟨q1,q2⟩:=(m1 p).1 hp;unfold dOne at q2;rw[Bool.and_eq_true] at q2;exact⟨q1.1,q1.2,q2.1⟩
  ·obtain⟨p,hp,rfl⟩:=List.mem_map.1 hm;obtain⟨q1,q2⟩:=(m2 p).1 hp;unfold dOne at q2;rw[Bool.and_eq_true,Bool.not_eq_true'] at q2;exact⟨q1.1,q1.2,q2.2⟩) (fun j e hj=>by
  have hg:(ebT m x1 x2).getD (0+j) ed0=(e.1,(e.2.1:Int),(e.2.2:Int)):=by rw[hT,Nat.zero_add];simp[List.getD,hj]
  simp only[hg];exact⟨trivial,trivial,trivial⟩)
 have hlen:L.length=(ebT m x1 x2).length:=by rw[hT,List.length_map]
 rw[hlen] at hy;refine⟨y,hy,he.trans ?_⟩;intro i hi;have hv:=vg_eq (tgF_vg (P1++P2) (fun i=>(x1 i).toNat) (vg1.congr (fun i hi=>by show r1 i=(x1 i).toNat;rw[hx1 i hi];rfl)) hall) vg2 (fun i j hij hj=>by
  rw[tgF_bit hij _ _ (fun p hp=>(hall p hp).1) hnd];have c1:(P1++P2).contains (i,j)=(dOne x1 x2 (i,j)||dOne x2 x1 (i,j)):=by
   rw[Bool.eq_iff_iff,List.contains_iff_mem,List.mem_append,m1,m2,Bool.or_eq_true];exact⟨fun h=>h.imp And.right And.right,fun h=>h.imp (fun h=>⟨⟨hij,hj⟩,h⟩) (fun h=>⟨⟨hij,hj⟩,h⟩)⟩
  rw[c1];show ((x1 i).toNat.testBit j^^(dOne x1 x2 (i,j)||dOne x2 x1 (i,j)))=(r2 i).testBit j;unfold dOne;have e2:(x2 i).toNat=r2 i:=by rw[hx2 i (by omega)];rfl
  show ((x1 i).toNat.testBit j^^((x1 i).toNat.testBit j&& !(x2 i).toNat.testBit j||(x2 i).toNat.testBit j&& !(x1 i).toNat.testBit j))=_;rw[e2];cases (x1 i).toNat.testBit j<;>cases (r2 i).testBit j<;>rfl)
 show ((tgF (fun i=>(x1 i).toNat) (L.map (·.2)) i:Nat):Int)=x2 i;rw[hM,hv i hi,hx2 i hi]
def cutA (c:UInt8) (p:List UInt8):List UInt8->List (List UInt8)
 | []=> [p]
 |b::l=>if b=c then p::cutA c [] l else cutA c (p++ [b]) l
theorem cutA_some (c:UInt8): ∀(l p:List UInt8),cutA c p l≠ []
 | [],p=>by unfold cutA;simp
 |b::l,p=>by
  unfold cutA
  split
  ·simp
  ·exact cutA_some c l _
theorem prefix_one (b c:UInt8) (l:List UInt8):List.isPrefixOf [c] (b::l)=(c==b):=by
 simp[List.isPrefixOf]
theorem index_one_cons (c b:UInt8) (l:List UInt8):Lib.index (b::l) [c]=if b=c then 0 else if Lib.index l [c]== -1 then-1 else Lib.index l [c]+1:=by
 rw[Lib.index,prefix_one];by_cases h:b=c
 ·subst h;simp
 ·rw[if_neg h,if_neg (by simp;exact fun e=>h e.symm)]
theorem index_one_ge (c:UInt8): ∀l:List UInt8,-1<=Lib.index l [c]
 | []=>by simp[Lib.index]
 |b::l=>by
  have ih:=index_one_ge c l
  rw[index_one_cons]
  split
  ·omega
  ·split
   ·omega
   ·omega
theorem cutA_miss (c:UInt8): ∀(l p:List UInt8),Lib.index l [c]= -1->cutA c p l= [p++l]
 | [],p,_=>by unfold cutA;simp
 |b::l,p,h=>by
  rw[index_one_cons] at h
  have hg:=index_one_ge c l
  by_cases hb:b=c
  ·rw[if_pos hb] at h;omega
  ·rw[if_neg hb] at h
   by_cases hi:Lib.index l [c]= -1
   ·unfold cutA
    rw[if_neg hb,cutA_miss c l _ hi]
    simp
   ·rw[if_neg (by simpa using hi)] at h
    omega
theorem cutA_hit (c:UInt8): ∀(l p:List UInt8) (i:Nat),Lib.index l [c]=i->cutA c p l=(p++l.take i)::cutA c [] (l.drop (i+1))
 | [],p,i,h=>by simp[Lib.index] at h
 |b::l,p,i,h=>by
  rw[index_one_cons] at h
  have hg:=index_one_ge c l
  by_cases hb:b=c
  ·rw[if_pos hb] at h
   obtain rfl:i=0:=by omega
   conv=>lhs;unfold cutA
   rw[if_pos hb];simp
  ·rw[if_neg hb] at h
   by_cases hi:Lib.index l [c]= -1
   ·rw[if_pos (by simpa using hi)] at h;omega
   ·rw[if_neg (by simpa using hi)] at h
    obtain⟨j,rfl⟩: ∃j,i=j+1:=⟨i-1,by omega⟩
    conv=>lhs;unfold cutA
    rw[if_neg hb,cutA_hit c l _ j (by omega)]
    simp
theorem splitK_cut (c:UInt8): ∀(k:Nat) (l:List UInt8),l.count c<=k->Lib.splitK [c] 0 k l=cutA c [] l
 |0,l,h=>by
  have h0:Lib.index l [c]= -1:=by
   have hc: ¬c∈l:=fun hm=>by have:=List.count_pos_iff.2 hm;omega
   clear h;induction l with
   |nil=>simp[Lib.index]
   |cons b l ih=>
    rw[index_one_cons,if_neg (fun e=>hc (by rw[e];simp)),ih (fun hm=>hc (by simp[hm]))];rfl
  rw[cutA_miss c l [] h0];rfl
 |k+1,l,h=>by
  rw[Lib.splitK];have hg:=index_one_ge c l;by_cases hi:Lib.index l [c]= -1
  ·rw[if_pos (by simpa using hi),cutA_miss c l [] hi];rfl
  ·obtain⟨i,e⟩: ∃i:Nat,Lib.index l [c]=i:=⟨(Lib.index l [c]).toNat,by omega⟩;rw[if_neg (by simpa using hi),cutA_hit c l [] i e,e];have hcount:(l.drop (i+1)).count c<=k:=by
    have hm: ∀(l:List UInt8) (i:Nat),Lib.index l [c]=i->(l.drop (i+1)).count c+1<=l.count c:=by
     intro l;induction l with
     |nil=>intro i h;simp[Lib.index] at h
     |cons b l ih=>
      intro i h;rw[index_one_cons] at h;have hg:=index_one_ge c l;by_cases hb:b=c
      ·rw[if_pos hb] at h;obtain rfl:i=0:=by omega
       subst hb;simp
      ·rw[if_neg hb] at h;by_cases hi:Lib.index l [c]= -1
       ·rw[if_pos (by simpa using hi)] at h;omega
       ·rw[if_neg (by simpa using hi)] at h;obtain⟨j,rfl⟩: ∃j,i=j+1:=⟨i-1,by omega⟩;have:=ih j (by omega);rw[List.drop_succ_cons,List.count_cons_of_ne hb];exact this
    have:=hm l i e;omega
   have ih:=splitK_cut c k (l.drop (i+1)) hcount;simp only[Int.toNat_natCast,Nat.add_zero,List.length_singleton,List.nil_append];rw[ih]
end Go.Proofs.YtfabbohijhjpcaaGreatDoor

/-
-/
/-
 Contracts of the law's helpers on slices of edits.
-/
namespace Go.Proofs.YtfabbohijhjpcaaGreatDoor
open Go.RowKit
end Go.Proofs.YtfabbohijhjpcaaGreatDoor
/-
 Contracts of the law's helpers on slices of at most nine strings.
-/
namespace Go.Proofs.YtfabbohijhjpcaaGreatDoor
open Go.RowKit
theorem info_string:(Tryz.prog.info? 9).map (fun i=>(i.zero,i.size,i.bytes))=some (some (.string ⟨#[]⟩),1,16):=by kernel_rfl
theorem conv1 (W:World) (d:Int):(convert 22 9 (.slice (some ⟨W.heap.size,0,none⟩) 1 1)).run Tryz.prog (W.alloc (Obj.cells #[.int .u8 d] 5))=.ok (.string ⟨#[UInt8.ofNat d.toNat]⟩) (W.alloc (Obj.cells #[.int .u8 d] 5)):=by
 have h:=run_convert_bytes_arg (P:=Tryz.prog) (W.alloc (Obj.cells #[.int .u8 d] 5)) 22 5 Tryz.underlying22 Tryz.underlying5 W.heap.size 0 1 1 [d] rfl (fun i hi=>by
  obtain rfl:i=0:=by omega
  simp[go_sem]) 9 Tryz.underlying9
 rw[h];rfl
def strs (x:Nat->ByteArray):Nat->Value:=fun j=> .string (x j)
end Go.Proofs.YtfabbohijhjpcaaGreatDoor
/-
 How the laws' arguments read: slices of integers, graphs, integers, strings.
-/
namespace Go.Proofs.YtfabbohijhjpcaaGreatDoor
open Go.ChangeShapes Go.WideShapes Go.ChangeAt Go.RowKit
theorem own:ownKnob Tryz.prog.godebug=none:=by kernel_rfl
theorem laidOut:laidOutB Tryz.prog=true:=by kernel_rfl
section
variable {H:Type} {enc:TypeId×Value->H} {w:World} {base:Nat} {spare:Nat->Bool} {held:Bool}
theorem places_lt {t:TypeId} {v:Value} {d:DataW H} {p:List MemPlace} (h:DataW.Trod enc Tryz.prog w base spare held t v d p): ∀x∈p,x.block<w.heap.size:=by
 obtain⟨m,hm⟩:=h;exact DataW.trod_lt m _ _ _ hm
end
end Go.Proofs.YtfabbohijhjpcaaGreatDoor
/-
 How further arguments read (slices of edits); small laws that the generated walks use.
-/
namespace Go.Proofs.YtfabbohijhjpcaaGreatDoor
open Go.ChangeShapes Go.WideShapes Go.ChangeAt Go.RowKit Go.Deep
section
variable {H:Type} {enc:TypeId×Value->H} {w:World} {base:Nat} {spare:Nat->Bool} {held:Bool}
end
end Go.Proofs.YtfabbohijhjpcaaGreatDoor
/-
 Contract of the law's helper that asks whether a graph holds its marks.
-/
namespace Go.Proofs.YtfabbohijhjpcaaGreatDoor
open Go.RowKit
end Go.Proofs.YtfabbohijhjpcaaGreatDoor
/-
 How arguments read: slices of slices of integers; integers; strings.
-/
namespace Go.Proofs.YtfabbohijhjpcaaGreatDoor
open Go.ChangeShapes Go.WideShapes Go.ChangeAt Go.RowKit Go.Deep
section
variable {H:Type} {enc:TypeId×Value->H} {w:World} {base:Nat} {spare:Nat->Bool} {held:Bool}
end
set_option maxHeartbeats 2000000
def dgB (d:Nat):ByteArray:=⟨#[UInt8.ofNat (48+d)]⟩
set_option maxRecDepth 100000 in
theorem FormatInt_s1 (d:Nat) (hd:d<10) (w:World):Calls Tryz.prog 69 #[.int .i64 d] w fun e w'=>e=.returned (.string (dgB d))/\Below w.heap.size w w':=by
 have hc:d=0\/d=1\/d=2\/d=3\/d=4\/d=5\/d=6\/d=7\/d=8\/d=9:=by omega
 clear hd;have cv:=conv1;rcases hc with rfl|rfl|rfl|rfl|rfl|rfl|rfl|rfl|rfl|rfl
 ·go_enter Tryz.func69,Tryz.ntmps69;go_wp2;go_ret;exact⟨rfl,br_⟩
 all_goals
  go_enter Tryz.func69,Tryz.ntmps69;go_wp2;refine wp_loop_rounds 2 ?_;rw[rounds_succ];go_wp2;rw[rounds_succ];go_wp2;go_ret;exact⟨rfl,br_.alloc nr_ _⟩
end Go.Proofs.YtfabbohijhjpcaaGreatDoor
