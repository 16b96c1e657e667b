/- Lemmas. -/
import Derived.Test.YtfabbohijhjpcaaGreatDoorRbEditsBetween
import Derived.Test.YtfabbohijhjpcaaGreatDoorRbEditsBetweenS
/-
-/
namespace Go.Proofs.YtfabbohijhjpcaaGreatDoor
open Go.RowKit
theorem near_graphs {s:Int} {A1 A2:Option Addr} {n c1 c2:Nat} {x y:Nat->Int} {W:World} (h1:GA W A1 n c1 x) (h2:GA W A2 n c2 y) (hxy:EqR n x y) (hn:n<=7):
 Calls Tryz.prog 10 #[.agg #[.int .i64 s,.slice A1 n c1],.agg #[.int .i64 s,.slice A2 n c2]] W fun e w'=>e=.returned (.bool true)/\Below W.heap.size W w':=by
 have:=EqualGraphs_s s s A1 A2 n n c1 c2 x y W W.heap.size h1.rd h2.rd nr_ (by omega) (by omega);rwa [gsl_rows,sl_yes hxy] at this
theorem jou_pack (s1:Int) (m1:Nat) (x1:Nat->Int) (n:Nat) (a:Nat->Bool) (v u:Nat->Int) (hm1:m1<=7) (hn:n<=6):
 ∃(is:Bool) (s2:Int) (m2:Nat) (X2:Nat->Int) (a2:Nat->Bool) (v2 u2:Nat->Int),m2<=7/\
  (∀(W:World) (A1:Option Addr) (c1:Nat) (A2:Option Addr) (c2:Nat),GA W A1 m1 c1 x1->ED W A2 n c2 a v u->Calls Tryz.prog 7 #[.agg #[.int .i64 s1,.slice A1 m1 c1],.slice A2 n c2] W fun e w'=> ∃(A':Option Addr) (c':Nat),e=.returned (.tuple #[.agg #[.int .i64 s2,.slice A' m2 c'],.bool is])/\GA w' A' m2 c' X2/\Below W.heap.size W w')/\
  (∀(W:World) (A1:Option Addr) (c1:Nat) (A2:Option Addr) (c2:Nat),GA W A1 m1 c1 x1->ED W A2 n c2 a v u->Calls Tryz.prog 8 #[.agg #[.int .i64 s1,.slice A1 m1 c1],.slice A2 n c2] W fun e w'=> ∃(A':Option Addr) (c':Nat),e=.returned (.tuple #[.agg #[.int .i64 s2,.slice A' m2 c'],.bool is])/\GA w' A' m2 c' X2/\Below W.heap.size W w')/\
  (∀(W:World) (A2:Option Addr) (c2:Nat),ED W A2 n c2 a v u->Calls Tryz.prog 9 #[.slice A2 n c2] W fun e w'=> ∃(A':Option Addr) (c':Nat),e=.returned (.slice A' n c')/\ED w' A' n c' a2 v2 u2/\Below W.heap.size W w')/\
  (is=true-> ∃X3:Nat->Int,EqR m1 X3 x1/\
    (∀(W:World) (A1:Option Addr) (c1:Nat) (A2:Option Addr) (c2:Nat),GA W A1 m2 c1 X2->ED W A2 n c2 a2 v2 u2->Calls Tryz.prog 7 #[.agg #[.int .i64 s2,.slice A1 m2 c1],.slice A2 n c2] W fun e w'=> ∃(A':Option Addr) (c':Nat),e=.returned (.tuple #[.agg #[.int .i64 s1,.slice A' m1 c'],.bool true])/\GA w' A' m1 c' X3/\Below W.heap.size W w')):=by
 refine⟨apD s1 m1 x1 n a v u,apZ s1 m1 x1 n a v u,apN s1 m1 x1 n a v u,apY s1 m1 x1 n a v u,fun k=> !a (n-1-k),fun k=>v (n-1-k),fun k=>u (n-1-k),Nat.le_trans apN_le hm1,?_,?_,?_,fun h=> ?_⟩
 ·intro W A1 c1 A2 c2 h1 h2;refine(ApplyEdits_i s1 A1 m1 c1 x1 A2 n c2 a v u W W.heap.size h1.rd h2.rd nr_ (by omega) (by omega)).mono ?_;rintro e w' ⟨A',c',he,ho,hb⟩;exact⟨A',c',he,⟨ho.rd⟩,hb⟩
 ·intro W A1 c1 A2 c2 h1 h2;refine(ApplyEdits_s s1 A1 m1 c1 x1 A2 n c2 a v u W W.heap.size h1.rd h2.rd nr_ (by omega) (by omega)).mono ?_;rintro e w' ⟨A',c',he,ho,hb⟩;exact⟨A',c',he,⟨ho.rd⟩,hb⟩
 ·intro W A2 c2 h2;refine(UndoEdits_i A2 n c2 a v u W W.heap.size h2.rd nr_ (by omega)).mono ?_;rintro e w' ⟨A',c',he,ho,hb⟩;exact⟨A',c',he,⟨ho.rdE⟩,hb⟩
 ·unfold apD at h;obtain⟨y,hy⟩:=Option.isSome_iff_exists.1 h;obtain⟨_,e2,e3,e4⟩:=ap_some hy;obtain⟨z,hz,hzx⟩:=apR_undo hy;obtain⟨f1,f2,f3,f4⟩:=ap_some hz;rw[e2,e3,e4];refine⟨z,hzx,?_⟩;intro W A1 c1 A2 c2 h1 h2;refine(ApplyEdits_i s1 A1 m1 c1 y A2 n c2 _ _ _ W W.heap.size h1.rd h2.rd nr_ (by omega) (by omega)).mono ?_;rintro e w' ⟨A',c',he,ho,hb⟩;rw[f1,f2,f3] at he;rw[f2,f4] at ho;exact⟨A',c',he,⟨ho.rd⟩,hb⟩
theorem txt_pack (n:Nat) (a:Nat->Bool) (v u:Nat->Int) (hn:n<=6):
 ∃(text:ByteArray) (N:Nat) (three:Bool),text.size<=48/\N<=12/\(!text.toList.isEmpty)=three/\(three=true->N=n)/\
  (∀(W:World) (A2:Option Addr) (c2:Nat),ED W A2 n c2 a v u->Calls Tryz.prog 23 #[.slice A2 n c2] W fun e w'=>e=.returned (.string text)/\Below W.heap.size W w')/\
  (∀(W:World) (A2:Option Addr) (c2:Nat),ED W A2 n c2 a v u->Calls Tryz.prog 27 #[.slice A2 n c2] W fun e w'=>e=.returned (.string text)/\Below W.heap.size W w')/\
  (∀W:World,Mx W->Calls Tryz.prog 24 #[.string text] W fun e w'=> ∃(A':Option Addr) (c':Nat),e=.returned (.tuple #[.slice A' N c',.bool three])/\Below W.heap.size W w'):=by
 have hsz:=fmO_size (n:=n) (a:=a) (v:=v) (u:=u);have h12:=peN_le (s:=fmO n a v u);have hall:(!(fmO n a v u).toList.isEmpty)=pdB (fmO n a v u)/\(pdB (fmO n a v u)=true->peN (fmO n a v u)=n):=by
  by_cases hne:fmO n a v u=⟨#[]⟩
  ·rw[hne];rw[pe_empty.1];exact⟨by rw[ByteArray.toList_eq];rfl,fun h=>by cases h⟩
  ·obtain⟨h1,h2⟩:=pe_fm hne;rw[h1,h2];refine⟨?_,fun _=>rfl⟩;cases he:(fmO n a v u).toList
   ·exfalso;apply hne;exact(toList_nil_iff_emptyBytes _).1 he
   ·rfl
 refine⟨fmO n a v u,peN (fmO n a v u),pdB (fmO n a v u),hsz,h12,hall.1,hall.2,?_,?_,?_⟩
 ·exact fun W A2 c2 h=>FormatEdits_i A2 n c2 a v u W ⟨h.rd⟩ (by omega)
 ·exact fun W A2 c2 h=>FormatEdits_s A2 n c2 a v u W ⟨h.rd⟩ (by omega)
 ·intro W h;refine(ParseEdits_iL _ W (by omega) h).mono ?_;rintro e w' ⟨A',c',he,_,hb⟩;exact⟨A',c',he,hb⟩
theorem par_pack (t:ByteArray) (ht:t.size<=60):
 ∃(N:Nat) (b:Bool),N<=12/\
  (∀W:World,Mx W->Calls Tryz.prog 24 #[.string t] W fun e w'=> ∃(A':Option Addr) (c':Nat),e=.returned (.tuple #[.slice A' N c',.bool b])/\Below W.heap.size W w')/\
  (∀W:World,Calls Tryz.prog 26 #[.string t] W fun e w'=> ∃(A':Option Addr) (c':Nat),e=.returned (.tuple #[.slice A' N c',.bool b])/\Below W.heap.size W w'):=by
 refine⟨peN t,pdB t,peN_le,fun W h=> ?_,fun W=> ?_⟩
 ·refine(ParseEdits_iL t W (by omega) h).mono ?_;rintro e w' ⟨A',c',he,_,hb⟩;exact⟨A',c',he,hb⟩
 ·refine(ParseEdits_sL t W (by omega)).mono ?_;rintro e w' ⟨A',c',he,_,hb⟩;exact⟨A',c',he,hb⟩
theorem btw_pack (s1:Int) (m1:Nat) (x1:Nat->Int) (s2:Int) (m2:Nat) (x2:Nat->Int) (hm1:m1<=7) (hm2:m2<=7):
 ∃(one:Bool) (N:Nat) (a:Nat->Bool) (v u:Nat->Int),N<=42/\
  (∀(W:World) (A1:Option Addr) (c1:Nat) (A2:Option Addr) (c2:Nat),GA W A1 m1 c1 x1->GA W A2 m2 c2 x2->Calls Tryz.prog 12 #[.agg #[.int .i64 s1,.slice A1 m1 c1],.agg #[.int .i64 s2,.slice A2 m2 c2]] W fun e w'=> ∃(A':Option Addr) (c':Nat),e=.returned (.tuple #[.slice A' N c',.bool one])/\ED w' A' N c' a v u/\Below W.heap.size W w')/\
  (∀(W:World) (A1:Option Addr) (c1:Nat) (A2:Option Addr) (c2:Nat),GA W A1 m1 c1 x1->GA W A2 m2 c2 x2->Calls Tryz.prog 13 #[.agg #[.int .i64 s1,.slice A1 m1 c1],.agg #[.int .i64 s2,.slice A2 m2 c2]] W fun e w'=> ∃(A':Option Addr) (c':Nat),e=.returned (.tuple #[.slice A' N c',.bool one])/\ED w' A' N c' a v u/\Below W.heap.size W w')/\
  (one=true->N<=12-> ∃X:Nat->Int,EqR m2 X x2/\
    (∀(W:World) (A1:Option Addr) (c1:Nat) (A2:Option Addr) (c2:Nat),GA W A1 m1 c1 x1->ED W A2 N c2 a v u->Calls Tryz.prog 7 #[.agg #[.int .i64 s1,.slice A1 m1 c1],.slice A2 N c2] W fun e w'=> ∃(A':Option Addr) (c':Nat),e=.returned (.tuple #[.agg #[.int .i64 s2,.slice A' m2 c'],.bool true])/\GA w' A' m2 c' X/\Below W.heap.size W w')):=by
 refine⟨ebB s1 m1 x1 s2 m2 x2,(ebL s1 m1 x1 s2 m2 x2).length,fun i=>((ebL s1 m1 x1 s2 m2 x2).getD i ed0).1,fun i=>((ebL s1 m1 x1 s2 m2 x2).getD i ed0).2.1,fun i=>((ebL s1 m1 x1 s2 m2 x2).getD i ed0).2.2,ebL_len,?_,?_,fun h hN=> ?_⟩
 ·intro W A1 c1 A2 c2 h1 h2;refine(EditsBetween_i s1 A1 m1 c1 x1 s2 A2 m2 c2 x2 W W.heap.size h1.rd h2.rd nr_ (by omega) (by omega)).mono ?_;rintro e w' ⟨A',c',he,ho,hb⟩;exact⟨A',c',he,⟨ho.rdE⟩,hb⟩
 ·intro W A1 c1 A2 c2 h1 h2;refine(EditsBetween_s s1 A1 m1 c1 x1 s2 A2 m2 c2 x2 W W.heap.size h1.rd h2.rd nr_ (by omega) (by omega)).mono ?_;rintro e w' ⟨A',c',he,ho,hb⟩;exact⟨A',c',he,⟨ho.rdE⟩,hb⟩
 ·have hL:ebL s1 m1 x1 s2 m2 x2=ebT m1 x1 x2:=if_pos h;rw[hL] at hN ⊢;unfold ebB at h;rw[Bool.and_eq_true,Bool.and_eq_true,decide_eq_true_eq] at h;obtain⟨⟨h1,h2⟩,h3⟩:=h;obtain⟨_,es,_,_⟩:=okB_ok' h1;subst es;subst h3;obtain⟨_,es2,_,_⟩:=okB_ok' h2;obtain rfl:m1=m2:=by omega
  obtain⟨y,hy,hyx⟩:=eb_lead h1 h2;obtain⟨f1,f2,f3,f4⟩:=ap_some ((apR_yes h1 hN).trans hy);refine⟨y,hyx,?_⟩;intro W A1 c1 A2 c2 g1 g2;refine(ApplyEdits_i (m1:Int) A1 m1 c1 x1 A2 _ c2 _ _ _ W W.heap.size g1.rd g2.rd nr_ (by omega) (by omega)).mono ?_;rintro e w' ⟨A',c',he,ho,hb⟩;rw[f1,f2,f3] at he;rw[f2,f4] at ho;exact⟨A',c',he,⟨ho.rd⟩,hb⟩
theorem flO_parts {L:List Bool} {k:Nat} (h:flO L=some k):k+1<L.length/\L.getD k false=true/\L.getD (k+1) false=false:=by
 unfold flO lsK at h;have h1:=List.find?_some h;have h2:=List.mem_range.1 (List.mem_of_find?_eq_some h);unfold flP at h1;rw[Bool.and_eq_true,Bool.not_eq_true'] at h1;exact⟨by omega,h1.1,h1.2⟩
structure BQ (w:World) (A:Option Addr) (n c:Nat) (f:Nat->Bool):Prop where
 own: ∃lo,Own w lo w.heap.size 4 1 A n c (fun j=> .bool (f j))
theorem BQ.keep {w w':World} {A:Option Addr} {n c:Nat} {f:Nat->Bool} (h:BQ w A n c f) (hb:Below w.heap.size w w'):BQ w' A n c f:=by
 obtain⟨lo,h1⟩:=h.own;exact⟨lo,(h1.keepB hb nr_).mono nr_ hb.size⟩
theorem BQ.addr {w:World} {A:Option Addr} {n c:Nat} {f:Nat->Bool} (h:BQ w A n c f) (hn:0<n): ∃g,A=some ⟨g,0,none⟩:=by
 obtain⟨lo,h1⟩:=h.own;obtain⟨g,e,_⟩:=h1.at_ hn;exact⟨g,e⟩
theorem BQ.at {w:World} {g n c j:Nat} {f:Nat->Bool} (h:BQ w (some ⟨g,0,none⟩) n c f) (hj:j<n):w.cell? ⟨g,j,none⟩=some (.bool (f j)):=by
 obtain⟨lo,h1⟩:=h.own;obtain⟨g2,e,_,_,_,hc,_⟩:=h1.at_ (by omega);cases e
 exact hc j (by omega)
theorem mem_pack (s:Int) (m:Nat) (x:Nat->Int) (n:Nat) (a:Nat->Bool) (v u:Nat->Int) (t:ByteArray) (hm:m<=7) (hn:n<=6):
 ∃(N:Nat) (f:Nat->Bool) (k:Int),N<=13/\
  (∀(W:World) (A1:Option Addr) (c1:Nat) (A2:Option Addr) (c2:Nat),GA W A1 m c1 x->ED W A2 n c2 a v u->Calls Tryz.prog 15 #[.agg #[.int .i64 s,.slice A1 m c1],.slice A2 n c2,.string t] W fun e w'=> ∃(A':Option Addr) (c':Nat),e=.returned (.slice A' N c')/\BQ w' A' N c' f/\Below W.heap.size W w')/\
  (∀(W:World) (A1:Option Addr) (c1:Nat) (A2:Option Addr) (c2:Nat),GA W A1 m c1 x->ED W A2 n c2 a v u->Calls Tryz.prog 16 #[.agg #[.int .i64 s,.slice A1 m c1],.slice A2 n c2,.string t] W fun e w'=> ∃(A':Option Addr) (c':Nat),e=.returned (.slice A' N c')/\BQ w' A' N c' f/\Below W.heap.size W w')/\
  (∀i,i<N->i<=n/\ ∃(X:Nat->Int),
    (∀(W:World) (A1:Option Addr) (c1:Nat) (A2:Option Addr) (c2:Nat),GA W A1 m c1 x->ED W A2 n c2 a v u->Calls Tryz.prog 8 #[.agg #[.int .i64 s,.slice A1 m c1],.slice A2 i c2] W fun e w'=> ∃(A':Option Addr) (c':Nat),e=.returned (.tuple #[.agg #[.int .i64 s,.slice A' m c'],.bool true])/\Own w' W.heap.size w'.heap.size 3 1 A' m c' (fun j=> .int .i64 (X j))/\Below W.heap.size W w')/\
    (∀(W:World) (A1:Option Addr) (c1:Nat),GA W A1 m c1 X->Calls Tryz.prog 17 #[.agg #[.int .i64 s,.slice A1 m c1],.string t] W fun e w'=>e=.returned (.bool (f i))/\Below W.heap.size W w'))/\
  (∀(W:World) (A1:Option Addr) (c1:Nat) (A2:Option Addr) (c2:Nat),GA W A1 m c1 x->ED W A2 n c2 a v u->Calls Tryz.prog 18 #[.agg #[.int .i64 s,.slice A1 m c1],.slice A2 n c2,.string t] W fun e w'=>e=.returned (.int .i64 k)/\Below W.heap.size W w')/\
  (∀(W:World) (A1:Option Addr) (c1:Nat) (A2:Option Addr) (c2:Nat),GA W A1 m c1 x->ED W A2 n c2 a v u->Calls Tryz.prog 19 #[.agg #[.int .i64 s,.slice A1 m c1],.slice A2 n c2,.string t] W fun e w'=>e=.returned (.int .i64 k)/\Below W.heap.size W w')/\
  (k<0\/ ∃j:Nat,k=(j:Int)/\j+1<N/\f j=true/\f (j+1)=false):=by
 refine⟨(meL s m x n a v u t.toList).length,fun j=>(meL s m x n a v u t.toList).getD j false,flI (meL s m x n a v u t.toList),meL_len,?_,?_,fun i hi=> ?_,?_,?_,?_⟩
 ·intro W A1 c1 A2 c2 h1 h2;refine(MembershipOf_i s A1 m c1 x A2 n c2 a v u t W h1 h2 (by omega) (by omega)).mono ?_;rintro e w' ⟨A',c',he,ho,hb⟩;exact⟨A',c',he,⟨_,ho⟩,hb⟩
 ·intro W A1 c1 A2 c2 h1 h2;refine(MembershipOf_s s A1 m c1 x A2 n c2 a v u t W h1 h2 (by omega) (by omega)).mono ?_;rintro e w' ⟨A',c',he,ho,hb⟩;exact⟨A',c',he,⟨_,ho⟩,hb⟩
 ·cases hr:apR s m x n a v u with
  |none=>rw[meL_no hr] at hi;simp at hi
  |some y=>
   rw[meL_yes hr] at hi;rw[meV_len] at hi;obtain⟨f1,f2,f3,f4⟩:=ap_some (apR_pre hr (show i<=n by omega));refine⟨by omega,apS s m a v u 0 i x,?_,?_⟩
   ·intro W A1 c1 A2 c2 h1 h2;refine(ApplyEdits_s s A1 m c1 x A2 i c2 a v u W W.heap.size h1.rd (h2.pre (by omega)).rd nr_ (by omega) (by omega)).mono ?_;rintro e w' ⟨A',c',he,ho,hb⟩;rw[f1,f2,f3] at he;rw[f2,f4] at ho;exact⟨A',c',he,ho,hb⟩
   ·intro W A1 c1 h1;have:=IsIn_s s A1 m c1 _ t W h1 (by omega);have e:(meL s m x n a v u t.toList).getD i false=isB s m (apS s m a v u 0 i x) t.toList:=by
     rw[meL_yes hr];unfold meV;simp[List.getD,hi]
    rw[<-e] at this;exact this
 ·exact fun W A1 c1 A2 c2 h1 h2=>FirstLoss_i s A1 m c1 x A2 n c2 a v u t W h1 h2 (by omega) (by omega)
 ·exact fun W A1 c1 A2 c2 h1 h2=>FirstLoss_s s A1 m c1 x A2 n c2 a v u t W h1 h2 (by omega) (by omega)
 ·cases hf:flO (meL s m x n a v u t.toList) with
  |none=>rw[flI_none hf];exact .inl (by omega)
  |some j=>exact .inr ⟨j,flI_some hf,flO_parts hf⟩
theorem saf_pack (s:Int) (m:Nat) (x:Nat->Int) (t:ByteArray) (hm:m<=7):
 ∃(N:Nat) (a:Nat->Bool) (v u:Nat->Int),N<=21/\
  (∀(W:World) (A1:Option Addr) (c1:Nat),GA W A1 m c1 x->Calls Tryz.prog 21 #[.agg #[.int .i64 s,.slice A1 m c1],.string t] W fun e w'=> ∃(A':Option Addr) (c':Nat),e=.returned (.slice A' N c')/\ED w' A' N c' a v u/\Below W.heap.size W w')/\
  (∀(W:World) (A1:Option Addr) (c1:Nat),GA W A1 m c1 x->Calls Tryz.prog 22 #[.agg #[.int .i64 s,.slice A1 m c1],.string t] W fun e w'=> ∃(A':Option Addr) (c':Nat),e=.returned (.slice A' N c')/\ED w' A' N c' a v u/\Below W.heap.size W w'):=by
 refine⟨(seL s m x t.toList).length,fun i=>((seL s m x t.toList).getD i ed0).1,fun i=>((seL s m x t.toList).getD i ed0).2.1,fun i=>((seL s m x t.toList).getD i ed0).2.2,seL_len,?_,?_⟩
 ·intro W A1 c1 h1;have K:Calls Tryz.prog 21 #[.agg #[.int .i64 s,.slice A1 m c1],.string t] W (seQe W (seL s m x t.toList)):=by
   cases ho:okB s m x
   ·rw[seL_no ho];exact SafeEdits_ino s A1 m c1 x t W h1 (by omega) ho
   ·obtain⟨_,es,_,_⟩:=okB_ok' ho;subst es;rw[seL_yes ho];exact SafeEdits_v t (h1.gv ho)
  refine K.mono ?_;rintro e w' ⟨A',c',he,ho,hb⟩;exact⟨A',c',he,⟨Own.rdE ho⟩,hb⟩
 ·intro W A1 c1 h1;have K:Calls Tryz.prog 22 #[.agg #[.int .i64 s,.slice A1 m c1],.string t] W (seQe W (seL s m x t.toList)):=by
   cases ho:okB s m x
   ·rw[seL_no ho];exact SafeEdits_sno s A1 m c1 x t W h1 (by omega) ho
   ·obtain⟨_,es,_,_⟩:=okB_ok' ho;subst es;rw[seL_yes ho];exact SafeEdits_sv t (h1.gv ho)
  refine K.mono ?_;rintro e w' ⟨A',c',he,ho,hb⟩;exact⟨A',c',he,⟨Own.rdE ho⟩,hb⟩
set_option maxHeartbeats 3200000
theorem and255 (x:Int): ∃v:Nat,v<256/\bits .and .i64 x 255=(v:Int):=by
 refine⟨(BitVec.ofInt 64 x&&&BitVec.ofInt 64 255).toNat,?_,?_⟩
 ·rw[BitVec.toNat_and];exact Nat.lt_of_le_of_lt Nat.and_le_right (by decide)
 ·have h:(BitVec.ofInt 64 x&&&BitVec.ofInt 64 255).toNat<256:=by
   rw[BitVec.toNat_and];exact Nat.lt_of_le_of_lt Nat.and_le_right (by decide)
  show IntKind.i64.wrap ((BitVec.ofInt 64 x&&&BitVec.ofInt 64 255).toNat:Int)=_;rw[IntKind.wrap_i64];omega
def By (w:World) (B:Nat) (A:Option Addr) (n c:Nat):Prop:=n<=c/\(0<n-> ∃b o,A=some ⟨b,o,none⟩/\b<B/\ ∀j,j<n-> ∃u:Nat,u<256/\w.cell? ⟨b,o+j,none⟩=some (.int .u8 u))
section
variable {w w':World} {A:Option Addr} {B n c q:Nat}
theorem By.keep (h:By w B A n c) {B':Nat} (hb:Below B w w') (hB:B<=B'):By w' B' A n c:=by
 refine⟨h.1,fun hn=> ?_⟩;obtain⟨b,o,rfl,hlt,hc⟩:=h.2 hn;exact⟨b,o,rfl,by omega,fun j hj=>(hc j hj).imp fun u hu=>⟨hu.1,up hb hu.2 hlt⟩⟩
theorem By.keepF (h:By w B A n c) {a b:Nat} (hf:Fr a b w w') (hB:B<=a) (hw:B<=w.heap.size):By w' B A n c:=h.keep (hf.below hB hw) nr_
structure Cu (w:World) (q:Nat) (A:Option Addr) (n c:Nat):Prop where
 ex: ∃(i:Nat) (h:Int),i<=n/\w.cell? ⟨q,0,none⟩=some (.slice A n c)/\w.cell? ⟨q,1,none⟩=some (.int .i64 i)/\w.cell? ⟨q,2,none⟩=some (.int .i64 h)
 f1:w.frozen? ⟨q,1,none⟩=false
 f2:w.frozen? ⟨q,2,none⟩=false
 by_:By w q A n c
 le:n<=1048576
theorem Cu.lt (h:Cu w q A n c):q<w.heap.size:=by
 obtain⟨_,_,_,h0,_⟩:=h.ex;exact World.block_lt_of_cell? _ _ h0
theorem Cu.keepB {B:Nat} (h:Cu w q A n c) (hb:Below B w w') (hq:q<B):Cu w' q A n c:=by
 obtain⟨i,k,hi,h0,h1,h2⟩:=h.ex;exact⟨⟨i,k,hi,up hb h0 hq,up hb h1 hq,up hb h2 hq⟩,upf hb h.f1 hq,upf hb h.f2 hq,h.by_.keep (hb.mono (Nat.le_of_lt hq)) nr_,h.le⟩
theorem Cu.keep (h:Cu w q A n c) (hb:Below w.heap.size w w'):Cu w' q A n c:=h.keepB hb h.lt
structure Dr (w:World) (q:Nat) (A:Option Addr) (n c:Nat) (w':World):Prop where
 cu:Cu w' q A n c
 fr:Fr q (q+1) w w'
theorem Dr.trans {w2:World} (h:Dr w q A n c w') (k:Dr w' q A n c w2):Dr w q A n c w2:=⟨k.cu,h.fr.trans k.fr⟩
theorem Dr.of (h:Cu w q A n c) (hb:Below w.heap.size w w'):Dr w q A n c w':=⟨h.keep hb,Fr.of_below hb⟩
theorem Dr.up (h:Dr w q A n c w') {w2:World} (hb:Below w'.heap.size w' w2):Dr w q A n c w2:=h.trans (Dr.of h.cu hb)
theorem Cu.mk' {w W:World} {i:Nat} {h:Int} (hi:i<=n) (d0:W.cell? ⟨q,0,none⟩=some (.slice A n c)) (d1:W.cell? ⟨q,1,none⟩=some (.int .i64 i)) (d2:W.cell? ⟨q,2,none⟩=some (.int .i64 h)) (d3:W.frozen? ⟨q,1,none⟩=false) (d4:W.frozen? ⟨q,2,none⟩=false) (hb:By w q A n c) (hq:q<w.heap.size) (hf:Fr q (q+1) w W) (hn:n<=1048576):Dr w q A n c W:=
 ⟨⟨⟨i,h,hi,d0,d1,d2⟩,d3,d4,hb.keepF hf nr_ (Nat.le_of_lt hq),hn⟩,hf⟩
set_option maxRecDepth 100000 in
theorem l1Byte_s (hc:Cu w q A n c):
 Calls Tryz.prog 122 #[.pointer (some ⟨q,0,none⟩)] w fun e w'=> ∃v:Nat,e=.returned (.int .i64 v)/\v<256/\Dr w q A n c w':=by
 have HC:=hh_ hc;obtain⟨i,h,hi,c0,c1,c2⟩:=hc.ex;have f1:=hc.f1;have f2:=hc.f2;have hn:=hc.le;have HBy:=hh_ hc.by_;have hlt:=hc.lt;obtain⟨h2,hh2⟩: ∃h2,h2=wrap64 (wrap64 (h*6364136223846793005)+1442695040888963407):=⟨_,rfl⟩;obtain⟨W1,hW1⟩: ∃W1,W1=w.setCell ⟨q,2,none⟩ (.int .i64 h2):=⟨_,rfl⟩;have d0:W1.cell? ⟨q,0,none⟩=some (.slice A n c):=by rw[hW1];simp[go_sem,c0]
 have d1:W1.cell? ⟨q,1,none⟩=some (.int .i64 i):=by rw[hW1];simp[go_sem,c1]
 have d2:W1.cell? ⟨q,2,none⟩=some (.int .i64 h2):=by rw[hW1];simp[go_sem,c2]
 have d3:W1.frozen? ⟨q,1,none⟩=false:=by rw[hW1];simp[go_sem,f1]
 have d4:Hid (W1.frozen? ⟨q,2,none⟩=false):=by rw[hW1];simp[go_sem,f2,Hid]
 have F1:Hid (Fr q (q+1) w W1):=by rw[hW1];exact(Fr.refl _ _ w).setCell (p:=⟨q,2,none⟩) nr_ (Nat.lt_succ_self _) _
 have Hh:=hh_ hh2;have HW:=hh_ hW1;clear hh2 hW1;by_cases hin:i<n
 ·obtain⟨b,o,rfl,hbq,hcell⟩:=hc.by_.2 (by omega);obtain⟨u,hu,pu⟩:=hcell i hin;have i1:(i:Int)<n:=by omega
  have p1:W1.cell? ⟨b,o+i,none⟩=some (.int .u8 u):=(F1.cell (p:=⟨b,o+i,none⟩) (by show b<_;omega) (.inl hbq)).trans pu;clear hc hcell pu;go_enter Tryz.func122,Tryz.ntmps122;go_wp2;rw[<-Hh.out,<-HW.out];clear c0 c1 c2 f1 f2;go_quiet (fail)
  go_wp2;obtain⟨v,hv,ev⟩:=and255 (bits .xor .i64 (h2/8589934592) (h2/35184372088832));rw[ev];clear ev;go_quiet (fail)
  go_wp2;go_quiet (fail)
  go_wp2;obtain⟨v2,hv2,ev2⟩:=and255 ((v:Int)+(u:Int));rw[ev2];go_ret;refine⟨v2,rfl,hv2,Cu.mk' (i:=i+1) (h:=h2) (by omega) ?_ ?_ ?_ ?_ ?_ HBy.out hlt ((F1.drewN _).setCell (p:=⟨q,1,none⟩) nr_ (Nat.lt_succ_self _) _) hn⟩
  ·simp[go_sem,d0]
  ·simp[go_sem,d1]
  ·simp[go_sem,d2]
  ·simp[go_sem,d3]
  ·simp[go_sem,d4.out]
 ·have i1:(n:Int)<=i:=by omega
  clear hc;go_enter Tryz.func122,Tryz.ntmps122;go_wp2;rw[<-Hh.out,<-HW.out];clear c0 c1 c2 f1 f2;go_quiet (fail)
  go_wp2;obtain⟨v,hv,ev⟩:=and255 (bits .xor .i64 (h2/8589934592) (h2/35184372088832));rw[ev];clear ev;go_quiet (fail)
  go_wp2;go_ret;exact⟨v,rfl,hv,Cu.mk' (i:=i) (h:=h2) hi d0 d1 d2 d3 d4.out HBy.out hlt ((F1.drewN _).drewN _) hn⟩
set_option maxRecDepth 100000 in
theorem l1Below_s (hc:Cu w q A n c) {k:Nat} (hk:0<k) (hk2:k<=256):
 Calls Tryz.prog 64 #[.pointer (some ⟨q,0,none⟩),.int .i64 k] w fun e w'=> ∃v:Nat,e=.returned (.int .i64 v)/\v<k/\Dr w q A n c w':=by
 have K:=hh_ (l1Byte_s hc);have i1: ¬((k:Int)<=0):=by omega
 have i2:(0:Int)<k:=by omega
 have i3:(k:Int)<=256:=by omega
 clear hc;go_enter Tryz.func64,Tryz.ntmps64;go_wp2_with fail
 refine K.mono ?_;rintro e w1 ⟨v,rfl,hv,hd⟩;have HD:=hh_ hd;clear hd K;go_wp2;go_ret;exact⟨v%k,by simp,Nat.mod_lt _ hk,HD.out⟩
theorem l1Once_s (hc:Cu w q A n c) {k:Nat} (hk:0<k) (hk2:k<=256):
 Calls Tryz.prog 88 #[.pointer (some ⟨q,0,none⟩),.int .i64 k] w fun e w'=> ∃b:Bool,e=.returned (.bool b)/\Dr w q A n c w':=by
 have K:=hh_ (l1Below_s hc hk hk2);clear hc;go_enter Tryz.func88,Tryz.ntmps88;go_wp2_with fail
 refine K.mono ?_;rintro e w1 ⟨v,rfl,hv,hd⟩;have HD:=hh_ hd;clear hd K;by_cases h0:v=0
 ·subst h0;go_wp2;go_ret;exact⟨true,rfl,HD.out⟩
 ·have i1:((v:Int)==0)=false:=by simp;omega
  go_wp2;go_ret;exact⟨false,rfl,HD.out⟩
structure LC (w:World) (g m:Nat):Prop where
 at_: ∀j,j<m-> ∃z:Int,w.cell? ⟨g,j,none⟩=some (.int .i64 z)
theorem LC.keep {g m a b:Nat} (h:LC w g m) (hg:g<w.heap.size) (hf:Fr a b w w') (ho:g<a\/b<=g):LC w' g m:=⟨fun j hj=>(h.at_ j hj).imp fun _ hz=>(hf.cell (p:=⟨g,j,none⟩) hg ho).trans hz⟩
set_option maxRecDepth 100000 in
theorem l1PickInt_s (hc:Cu w q A n c) {g m k:Nat} (hl:LC w g m) (hg:q<g) (hgw:g<w.heap.size) (hm:0<m) (hm2:m<=256):
 Calls Tryz.prog 87 #[.pointer (some ⟨q,0,none⟩),.slice (some ⟨g,0,none⟩) m k] w fun e w'=> ∃z:Int,e=.returned (.int .i64 z)/\Dr w q A n c w':=by
 have K:=hh_ (l1Below_s hc hm hm2);have HL:=hh_ hl;clear hc hl;go_enter Tryz.func87,Tryz.ntmps87;go_wp2_with fail
 refine K.mono ?_;rintro e w1 ⟨v,rfl,hv,hd⟩;have HD:=hh_ hd;obtain⟨z,hz⟩:=(HL.keep hgw hd.fr (.inr (by omega))).at_ v hv;have i1:(v:Int)<m:=by omega
 clear hd K;go_wp2;go_ret;exact⟨z,rfl,HD.out⟩
structure LT (w:World) (g m:Nat) (P:ByteArray->Prop):Prop where
 at_: ∀j,j<m-> ∃t:ByteArray,P t/\w.cell? ⟨g,j,none⟩=some (.string t)
theorem LT.keep {g m a b:Nat} {P:ByteArray->Prop} (h:LT w g m P) (hg:g<w.heap.size) (hf:Fr a b w w') (ho:g<a\/b<=g):LT w' g m P:=⟨fun j hj=>(h.at_ j hj).imp fun _ hz=>⟨hz.1,(hf.cell (p:=⟨g,j,none⟩) hg ho).trans hz.2⟩⟩
set_option maxRecDepth 100000 in
theorem l1Pick_s (hc:Cu w q A n c) {g m k:Nat} {P:ByteArray->Prop} (hl:LT w g m P) (hg:q<g) (hgw:g<w.heap.size) (hm:0<m) (hm2:m<=256):
 Calls Tryz.prog 66 #[.pointer (some ⟨q,0,none⟩),.slice (some ⟨g,0,none⟩) m k] w fun e w'=> ∃t:ByteArray,e=.returned (.string t)/\P t/\Dr w q A n c w':=by
 have K:=hh_ (l1Below_s hc hm hm2);have HL:=hh_ hl;clear hc hl;go_enter Tryz.func66,Tryz.ntmps66;go_wp2_with fail
 refine K.mono ?_;rintro e w1 ⟨v,rfl,hv,hd⟩;have HD:=hh_ hd;obtain⟨z,hp,hz⟩:=(HL.keep hgw hd.fr (.inr (by omega))).at_ v hv;have HP:=hh_ hp;have i1:(v:Int)<m:=by omega
 clear hd K hp;go_wp2;go_ret;exact⟨z,rfl,HP.out,HD.out⟩
end
end Go.Proofs.YtfabbohijhjpcaaGreatDoor
