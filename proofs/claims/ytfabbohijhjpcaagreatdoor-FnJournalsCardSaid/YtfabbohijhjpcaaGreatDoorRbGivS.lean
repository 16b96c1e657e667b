/- Lemmas. -/
import Derived.Test.YtfabbohijhjpcaaGreatDoorRbPrfI
/-
-/
namespace Go.Proofs.YtfabbohijhjpcaaGreatDoor
open Go.RowKit
structure TwoN (w:World) (lo:Nat) (A1:Option Addr) (c1:Nat) (T:List Nat) (A2:Option Addr) (c2:Nat) (U:List Nat):Prop where
 o1:Own w lo w.heap.size 3 1 A1 T.length c1 (ni T)
 o2:Own w lo w.heap.size 3 1 A2 U.length c2 (ni U)
 ne: ∀a,A1=some a->A2≠some a
section
variable {w w':World} {lo c1 c2:Nat} {A1 A2:Option Addr} {T U:List Nat}
theorem TwoN.nil (w:World) (lo:Nat):TwoN w lo none 0 [] none 0 []:=⟨Own.nil _ _ _ _ _ _,Own.nil _ _ _ _ _ _,fun a h=>(by cases h)⟩
theorem TwoN.keep (h:TwoN w lo A1 c1 T A2 c2 U) (hb:Below w.heap.size w w'):TwoN w' lo A1 c1 T A2 c2 U:=
 ⟨(h.o1.keepB hb nr_).mono nr_ hb.size,(h.o2.keepB hb nr_).mono nr_ hb.size,h.ne⟩
theorem TwoN.keepF {a b:Nat} (h:TwoN w lo A1 c1 T A2 c2 U) (hf:Fr a b w w') (hq:b<=lo):TwoN w' lo A1 c1 T A2 c2 U:=
 ⟨(h.o1.keep hf (.inr hq)).mono nr_ hf.size,(h.o2.keep hf (.inr hq)).mono nr_ hf.size,h.ne⟩
theorem TwoN.mono {lo':Nat} (h:TwoN w lo A1 c1 T A2 c2 U) (hl:lo'<=lo):TwoN w lo' A1 c1 T A2 c2 U:=⟨h.o1.mono hl nr_,h.o2.mono hl nr_,h.ne⟩
theorem TwoN.alloc (h:TwoN w lo A1 c1 T A2 c2 U) (o:Obj):TwoN (w.alloc o) lo A1 c1 T A2 c2 U:=h.keep (br_.alloc nr_ _)
theorem TwoN.drew (h:TwoN w lo A1 c1 T A2 c2 U):TwoN w.drew lo A1 c1 T A2 c2 U:=⟨h.o1,h.o2,h.ne⟩
theorem TwoN.other {W:World} {n k:Nat} (h:TwoN w lo A1 c1 T A2 c2 U) (hg:W.grownBy w' (Value.slice A1 n c1).ownBlock) (hk:w.heap.size<=k) (hk2:k<W.heap.size):w'.heap[k]? =W.heap[k]? :=by
 refine hg.block k hk2 ?_;rcases h.o1.at_block with e|⟨g,e,_,hlt⟩
 ·subst e;simp[Value.ownBlock]
 ·subst e;simp[Value.ownBlock];omega
theorem TwoN.swap (h:TwoN w lo A1 c1 T A2 c2 U):TwoN w lo A2 c2 U A1 c1 T:=⟨h.o2,h.o1,fun a h2 h1=>h.ne a h1 h2⟩
theorem TwoN.grow {n c A' T':_} (h:TwoN w lo A1 c1 T A2 c2 U) (h1:Own w' lo w'.heap.size 3 1 A' (List.length T') c (ni T')) (hg:w.grownBy w' (Value.slice A1 n c1).ownBlock) (hat:(Value.slice A' n c).ownBlock=(Value.slice A1 n c1).ownBlock\/(Value.slice A' n c).ownBlock=some w.heap.size):TwoN w' lo A' c T' A2 c2 U:=by
 have hnew:A2≠some ⟨w.heap.size,0,none⟩:=fun e=>by
  rcases h.o2.at_block with h'|⟨g',h',_,hlt⟩
  ·rw[h'] at e;cases e
  ·rw[h'] at e;simp only[Option.some.injEq,Addr.mk.injEq,and_true] at e;omega
 have h2:Own w' lo w'.heap.size 3 1 A2 U.length c2 (ni U):=by
  rcases h.o1 with ⟨e1,_,_⟩|⟨g0,cur,e1,_,_,_⟩
  ·subst e1;have hb:Below w.heap.size w w':=⟨hg.os,hg.tape,hg.output,hg.size,fun k hk=>hg.block k hk (by simp[Value.ownBlock])⟩;exact(h.o2.keepB hb nr_).mono nr_ hb.size
  ·subst e1;have hf:Fr g0 (g0+1) w w':=⟨hg.os,hg.tape,hg.output,hg.size,fun k hk ho=>hg.block k hk (by simp[Value.ownBlock];omega)⟩;exact(h.o2.keep1 hf (h.ne _ rfl)).mono nr_ hf.size
 refine⟨h1,h2,fun a e=> ?_⟩;rcases h1.at_block with h'|⟨g,h',_,_⟩
 ·rw[h'] at e;cases e
 ·rw[h'] at e;obtain rfl:=Option.some.inj e;rw[h'] at hat;rcases hat with hat|hat
  ·rcases h.o1 with ⟨e1,_,_⟩|⟨g0,cur,e1,_,_,_⟩
   ·subst e1;simp[Value.ownBlock] at hat
   ·subst e1;simp[Value.ownBlock] at hat;rw[hat];exact h.ne _ rfl
  ·simp[Value.ownBlock] at hat;rw[hat];exact hnew
theorem TwoN.push (h:TwoN w lo A1 c1 T A2 c2 U) {v g cap:Nat} (hp:Pushed w w' lo 3 1 A1 T.length c1 (ni (T++ [v])) g cap):TwoN w' lo (some ⟨g,0,none⟩) cap (T++ [v]) A2 c2 U:=by
 refine h.grow (n:=T.length) (by rw[List.length_append];exact hp.own) hp.grown ?_;rcases hp.at_ with h'|h'
 ·exact .inl (by rw[h'];simp[Value.ownBlock])
 ·exact .inr (by rw[h'];simp[Value.ownBlock])
end
section
variable {ops:Array Oper} {o:Oper} {a:Act} {K:Act->World->Prop} {Q:Exit->Act->World->Prop} {E:Prop} {lo c1 c2:Nat} {A1 A2:Option Addr} {T U:List Nat}
theorem step_twoN (W:World) (hgd:o.guard=none) (s y:Operand)
 (ho:o.op=.call {callee:=.builtin .append,args:= #[s,y],argTypes:= #[24,24]})
 (hT:TwoN W lo A1 c1 T A2 c2 U) (hlo:lo<=W.heap.size) (hs:a.eval s=.slice A1 T.length c1)
 (B cx v:Nat) (hy:a.eval y=.slice (some ⟨B,0,none⟩) 1 cx) (hB:W.heap[B]? =some (.cells #[.int .i64 (v:Int)] 3 (0,0))) (hn:T.length<=1073741824)
 (hK: ∀g' cap w',TwoN w' lo (some ⟨g',0,none⟩) cap (T++ [v]) A2 c2 U->Below lo W w'->W.grownBy w' (Value.slice A1 T.length c1).ownBlock->K (a.put o.dst (.slice (some ⟨g',0,none⟩) (T.length+1) cap)) w'):
 if Region.wanted o (yielded ops a.tmps)=true then Oper.wp Tryz.prog o a W K Q else E:=
 step_push W hgd s y 24 ho 3 _ 1 8 Tryz.underlying24 info_int rfl (by omega) lo W.heap.size A1 T.length c1 (ni (T++ [v])) hs (hT.o1.congr (fun j hj=>(ni_left (by omega)).symm)) hlo B #[.int .i64 (v:Int)] 3 (0,0) cx hB hy rfl ni_news (by simp[Value.oneCell']) hn (by omega) fun g' cap w' hp=>hK g' cap w' (hT.push hp) hp.below hp.grown
theorem wpList_twoN (W:World) {rest:List Oper} {Qx:Exit->Act->World->Prop} (hgd:o.guard=none) (s y:Operand)
 (ho:o.op=.call {callee:=.builtin .append,args:= #[s,y],argTypes:= #[24,24]})
 (hT:TwoN W lo A1 c1 T A2 c2 U) (hlo:lo<=W.heap.size) (hs:a.eval s=.slice A1 T.length c1)
 (B cx v:Nat) (hy:a.eval y=.slice (some ⟨B,0,none⟩) 1 cx) (hB:W.heap[B]? =some (.cells #[.int .i64 (v:Int)] 3 (0,0))) (hn:T.length<=1073741824)
 (hK: ∀g' cap w',TwoN w' lo (some ⟨g',0,none⟩) cap (T++ [v]) A2 c2 U->Below lo W w'->wpList Tryz.prog ops Qx rest (a.put o.dst (.slice (some ⟨g',0,none⟩) (T.length+1) cap)) w'):
 wpList Tryz.prog ops Qx (o::rest) a W:=
 wpList_push W hgd s y 24 ho 3 _ 1 8 Tryz.underlying24 info_int rfl (by omega) lo W.heap.size A1 T.length c1 (ni (T++ [v])) hs (hT.o1.congr (fun j hj=>(ni_left (by omega)).symm)) hlo B #[.int .i64 (v:Int)] 3 (0,0) cx hB hy rfl ni_news (by simp[Value.oneCell']) hn (by omega) fun g' cap w' hp=>hK g' cap w' (hT.push hp) hp.below
end
structure MB (w:World) (q:Nat) (A1:Option Addr) (n1 c1:Nat) (A2:Option Addr) (n2 c2:Nat):Prop where
 c0:w.cell? ⟨q,0,none⟩=some (.slice A1 n1 c1)
 c1:w.cell? ⟨q,1,none⟩=some (.slice A2 n2 c2)
 f0:w.frozen? ⟨q,0,none⟩=false
 f1:w.frozen? ⟨q,1,none⟩=false
section
variable {w w':World} {q n1 c1 n2 c2 m1 d1 m2 d2 lo hi:Nat} {A1 A2 B1 B2:Option Addr}
theorem MB.lt (h:MB w q A1 n1 c1 A2 n2 c2):q<w.heap.size:=World.block_lt_of_cell? _ _ h.c0
theorem MB.keep (h:MB w q A1 n1 c1 A2 n2 c2) (hb:Below w.heap.size w w'):MB w' q A1 n1 c1 A2 n2 c2:=⟨up hb h.c0 h.lt,up hb h.c1 h.lt,upf hb h.f0 h.lt,upf hb h.f1 h.lt⟩
theorem MB.keepB {B:Nat} (h:MB w q A1 n1 c1 A2 n2 c2) (hb:Below B w w') (hq:q<B):MB w' q A1 n1 c1 A2 n2 c2:=⟨up hb h.c0 hq,up hb h.c1 hq,upf hb h.f0 hq,upf hb h.f1 hq⟩
theorem MB.new (w:World):MB (w.alloc (Obj.cells #[.slice none 0 0,.slice none 0 0] 159)) w.heap.size none 0 0 none 0 0:=by constructor<;>simp[go_sem]
theorem MB.set (h:MB w q A1 n1 c1 A2 n2 c2):MB ((w.setCell ⟨q,0,none⟩ (.slice B1 m1 d1)).setCell ⟨q,1,none⟩ (.slice B2 m2 d2)) q B1 m1 d1 B2 m2 d2:=by
 have h0:=h.c0;have h1:=h.c1;have h2:=h.f0;have h3:=h.f1;constructor<;>simp[go_sem,h0,h1,h2,h3]
theorem MB.drew (h:MB w q A1 n1 c1 A2 n2 c2):MB w.drew q A1 n1 c1 A2 n2 c2:=⟨h.c0,h.c1,h.f0,h.f1⟩
end
theorem MB.set0 {w:World} {q n1 c1 n2 c2 m1 d1:Nat} {A1 A2 B1:Option Addr} (h:MB w q A1 n1 c1 A2 n2 c2):MB (w.setCell ⟨q,0,none⟩ (.slice B1 m1 d1)) q B1 m1 d1 A2 n2 c2:=by
 have h0:=h.c0;have h1:=h.c1;have h2:=h.f0;have h3:=h.f1;constructor<;>simp[go_sem,h0,h1,h2,h3]
theorem MB.set1 {w:World} {q n1 c1 n2 c2 m1 d1:Nat} {A1 A2 B1:Option Addr} (h:MB w q A1 n1 c1 A2 n2 c2):MB (w.setCell ⟨q,1,none⟩ (.slice B1 m1 d1)) q A1 n1 c1 B1 m1 d1:=by
 have h0:=h.c0;have h1:=h.c1;have h2:=h.f0;have h3:=h.f1;constructor<;>simp[go_sem,h0,h1,h2,h3]
theorem frOne (w:World) (q j:Nat) (x:Value):Fr q (q+1) w (w.setCell ⟨q,j,none⟩ x):=(Fr.refl _ _ w).setCell (p:=⟨q,j,none⟩) nr_ (Nat.lt_succ_self _) _
def ivR (L R:List Int) (j:Nat):Nat:=grS (jnB L R) L.length L.length 0 j
set_option maxHeartbeats 3200000
set_option maxRecDepth 100000 in
theorem IsModel_s (Al:Option Addr) (n cl:Nat) (L:List Int) (Ar:Option Addr) (k cr:Nat) (R:List Int) (w:World) (hl:LI w Al n cl L) (hr:LI w Ar k cr R) (hnb:n<=1048576):
 Calls Tryz.prog 304 #[.agg #[.slice Al n cl,.slice Ar k cr]] w fun e w'=>e=.returned (.bool (imB L R))/\Below w.heap.size w w':=by
 obtain⟨W,hW⟩: ∃W,W=(w.alloc (Obj.cells #[.slice Al n cl,.slice Ar k cr] 159)):=⟨_,rfl⟩;have HB:Hid (From w W):=by rw[hW];exact From.alloc _ _
 have HL:=hh_ (hl.keep HB.below);have HR:=hh_ (hr.keep HB.below);have HI:Hid (IB W w.heap.size Al n cl Ar k cr):=by rw[hW];constructor<;>simp[go_sem]
 have HW:=hh_ hW;have HN:=hh_ hl.len;have HK:=hh_ hr.len;have HR0:Hid (From W W):=From.refl W;have hlt:=HI.lt;have e0:=HI.c0;have e1:=HI.c1;clear hW hl hr;go_enter Tryz.func304,Tryz.ntmps304;go_wp2_with fail
 rw[<-HW.out];clear HW;go_wp2;clear e0 e1;go_loopw [3] (fun iv wr=> ∃i:Nat,i<=n/\i<=k/\iv=.int .i64 i/\Hid (Im1 L R i)/\Hid (From W wr)) (fun iv _=>n-(intOf iv).toNat);case atStart=>exact⟨0,Nat.zero_le _,Nat.zero_le _,rfl,Im1.zero,HR0⟩
 case round=>
  clear HR0;obtain⟨i,hi,hik2,rfl,H1,HF⟩:=hrel;have HBr:=hh_ (HB.up HF.out);have HIr:=hh_ (HI.keep HF.below);have e0:=HIr.c0;have e1:=HIr.c1;by_cases hin:i<n/\i<k
  ·obtain⟨hik,hir⟩:=hin;have i1:(i:Int)<n:=by omega
   have i2:(i:Int)<k:=by omega
   have HLr:=hh_ (HL.keep HF.below);have HRr:=hh_ (HR.keep HF.below);obtain⟨bl,ol,rfl⟩:=HLr.addr (by omega);obtain⟨br,or_,rfl⟩:=HRr.addr (by omega);have p0:=HLr.at hik;have p1:=HRr.at hir;have hno:=fun h=>im_no (L:=L) (R:=R) (k:=i) (by rw[<-HN.out];exact hik) h
   have hst:=fun h=>H1.step (L:=L) (R:=R) (k:=i) h
   obtain⟨a,ha⟩: ∃a:Int,a=L.getD i 0:=⟨_,rfl⟩;obtain⟨b,hb⟩: ∃b:Int,b=R.getD i 0:=⟨_,rfl⟩;rw[<-ha] at p0 hno hst;rw[<-hb] at p1 hno hst;clear ha hb;by_cases h0:0<=a/\a<=99
   rotate_left
   ·have Hn:Hid (imB L R=false):=hno (by omega);have K1:Hid (∀z:World,Calls Tryz.prog 68 #[.int .i64 a,.int .i64 0,.int .i64 99] z fun e w'=>e=.returned (.bool false)/\Below z.heap.size z w'):=fun z=>l1In_b z (decide_eq_false h0)
    clear hno hst h0;go_wp2;obtain⟨HSC,HZ0,HS1⟩:=hsc4 e0 e1 p0 p1;have KR1:Hid (∀z:World,Below wr.heap.size wr z->_):=fun z hz=>K1.out z
    refine wpH HS1.out (fun hHeld=> ?_);refine pcY 0 ?_;iterate 4 (refine ptY ?_)
    refine w1H 5 (fun K hK=> ?_);go_simp;go_at_call 68;refine(KR1.out _ HZ0.out).mono ?_
    rintro e w1 ⟨rfl,hb1⟩;have hz1:=bl_trans HZ0.out hb1;refine hK.out _ _ (HSC.out _ hz1) (fun hHeld=> ?_);clear hK K;try simp only[Act.put,sl0,sl1,sl2]
    iterate 2 (refine ptY ?_)
    iterate 12 (refine ptN ?_)
    refine ptY ?_;refine wpAnyH_done (by kernel_rfl) ?_ _;replace HBr:=hh_ (HBr.keep hz1);replace HF:=hh_ (HF.keep hz1);clear hb1 hz1 HSC HZ0 HS1 KR1;go_wp2;go_ret;exact⟨ret_bool Hn.symm,HBr.below⟩
   have K1:Hid (∀z:World,Calls Tryz.prog 68 #[.int .i64 a,.int .i64 0,.int .i64 99] z fun e w'=>e=.returned (.bool true)/\Below z.heap.size z w'):=fun z=>l1In_b z (decide_eq_true h0)
   by_cases h1:a<=b/\b<=99
   rotate_left
   ·have Hn:Hid (imB L R=false):=hno (by omega);have K2:Hid (∀z:World,Calls Tryz.prog 68 #[.int .i64 b,.int .i64 a,.int .i64 99] z fun e w'=>e=.returned (.bool false)/\Below z.heap.size z w'):=fun z=>l1In_b z (decide_eq_false h1)
    clear hno hst h0 h1;go_wp2;obtain⟨HSC,HZ0,HS1⟩:=hsc4 e0 e1 p0 p1;have KR1:Hid (∀z:World,Below wr.heap.size wr z->_):=fun z hz=>K1.out z
    have KR2:Hid (∀z:World,Below wr.heap.size wr z->_):=fun z hz=>K2.out z
    refine wpH HS1.out (fun hHeld=> ?_);refine pcY 0 ?_;iterate 4 (refine ptY ?_)
    refine w1H 5 (fun K hK=> ?_);go_simp;go_at_call 68;refine(KR1.out _ HZ0.out).mono ?_
    rintro e w2 ⟨rfl,hb2⟩;have hz2:=bl_trans HZ0.out hb2;refine hK.out _ _ (HSC.out _ hz2) (fun hHeld=> ?_);clear hK K;try simp only[Act.put,sl0,sl1,sl2]
    iterate 12 (refine ptY ?_)
    refine w1H 18 (fun K hK=> ?_);go_simp;go_at_call 68;refine(KR2.out _ hz2).mono ?_
    rintro e w3 ⟨rfl,hb3⟩;have hz3:=bl_trans hz2 hb3;refine hK.out _ _ (HSC.out _ hz3) (fun hHeld=> ?_);clear hK K;try simp only[Act.put,sl0,sl1,sl2]
    iterate 2 (refine ptY ?_)
    refine wpAnyH_done (by kernel_rfl) ?_ _;replace HBr:=hh_ (HBr.keep hz3);replace HF:=hh_ (HF.keep hz3);clear hb2 hz2 hb3 hz3 HSC HZ0 HS1 KR1 KR2;go_wp2;go_ret;exact⟨ret_bool Hn.symm,HBr.below⟩
   ·have H1':Hid (Im1 L R (i+1)):=hst (by omega);have K2:Hid (∀z:World,Calls Tryz.prog 68 #[.int .i64 b,.int .i64 a,.int .i64 99] z fun e w'=>e=.returned (.bool true)/\Below z.heap.size z w'):=fun z=>l1In_b z (decide_eq_true h1)
    clear hno hst h0 h1;go_wp2;obtain⟨HSC,HZ0,HS1⟩:=hsc4 e0 e1 p0 p1;have KR1:Hid (∀z:World,Below wr.heap.size wr z->_):=fun z hz=>K1.out z
    have KR2:Hid (∀z:World,Below wr.heap.size wr z->_):=fun z hz=>K2.out z
    refine wpH HS1.out (fun hHeld=> ?_);refine pcY 0 ?_;iterate 4 (refine ptY ?_)
    refine w1H 5 (fun K hK=> ?_);go_simp;go_at_call 68;refine(KR1.out _ HZ0.out).mono ?_
    rintro e w4 ⟨rfl,hb4⟩;have hz4:=bl_trans HZ0.out hb4;refine hK.out _ _ (HSC.out _ hz4) (fun hHeld=> ?_);clear hK K;try simp only[Act.put,sl0,sl1,sl2]
    iterate 12 (refine ptY ?_)
    refine w1H 18 (fun K hK=> ?_);go_simp;go_at_call 68;refine(KR2.out _ hz4).mono ?_
    rintro e w5 ⟨rfl,hb5⟩;have hz5:=bl_trans hz4 hb5;refine hK.out _ _ (HSC.out _ hz5) (fun hHeld=> ?_);clear hK K;try simp only[Act.put,sl0,sl1,sl2]
    iterate 2 (refine ptY ?_)
    refine wpAnyH_done (by kernel_rfl) ?_ _;replace HBr:=hh_ (HBr.keep hz5);replace HF:=hh_ (HF.keep hz5);clear hb4 hz4 hb5 hz5 HSC HZ0 HS1 KR1 KR2;go_wp2;go_roundw;case rel=>exact⟨i+1,by omega,by omega,by go_num,H1',HF⟩
    case measure=>simp[intOf]<;>omega
  ·by_cases hn:1<=n/\n<=7
   rotate_left
   ·have Hn:Hid (imB L R=false):=im_len (by rw[<-HN.out];exact hn);have KW:Hid (decide ((1:Int)<=n/\(n:Int)<=7)=false):=by show _=_;exact decide_eq_false (by omega)
    clear hn;by_cases hil:i<n
    ·have i1:(i:Int)<n:=by omega
     have i2:(k:Int)<=i:=by omega
     clear hin;go_wp2_with fail
     refine(l1In_b (n:=(n:Int)) (lo:=1) (hi:=7) wr KW.out).mono ?_;rintro e w6 ⟨rfl,hb6⟩;replace HBr:=hh_ (HBr.keep hb6);clear hb6;go_wp2;go_ret;exact⟨ret_bool Hn.symm,HBr.below⟩
    ·have i1:(n:Int)<=i:=by omega
     clear hin;go_wp2_with fail
     refine(l1In_b (n:=(n:Int)) (lo:=1) (hi:=7) wr KW.out).mono ?_;rintro e w7 ⟨rfl,hb7⟩;replace HBr:=hh_ (HBr.keep hb7);clear hb7;go_wp2;go_ret;exact⟨ret_bool Hn.symm,HBr.below⟩
   have KW:Hid (decide ((1:Int)<=n/\(n:Int)<=7)=true):=by show _=_;exact decide_eq_true (by omega)
   by_cases hnk:k=n
   rotate_left
   ·have Hn:Hid (imB L R=false):=im_same (by rw[<-HN.out,<-HK.out];exact hnk);have d1:((k:Int)==(n:Int))=false:=by simp;omega
    have d2:(k=n)=False:=by simp;omega
    by_cases hil:i<n
    ·have i1:(i:Int)<n:=by omega
     have i2:(k:Int)<=i:=by omega
     clear hin hn hnk;go_wp2_with fail
     refine(l1In_b (n:=(n:Int)) (lo:=1) (hi:=7) wr KW.out).mono ?_;rintro e w8 ⟨rfl,hb8⟩;clear e0 e1;replace HBr:=hh_ (HBr.keep hb8);replace HIr:=hh_ (HIr.keep hb8);clear hb8;have e0:=HIr.c0;have e1:=HIr.c1;go_wp2;go_ret;exact⟨ret_bool Hn.symm,HBr.below⟩
    ·have i1:(n:Int)<=i:=by omega
     clear hin hn hnk;go_wp2_with fail
     refine(l1In_b (n:=(n:Int)) (lo:=1) (hi:=7) wr KW.out).mono ?_;rintro e w9 ⟨rfl,hb9⟩;clear e0 e1;replace HBr:=hh_ (HBr.keep hb9);replace HIr:=hh_ (HIr.keep hb9);clear hb9;have e0:=HIr.c0;have e1:=HIr.c1;go_wp2;go_ret;exact⟨ret_bool Hn.symm,HBr.below⟩
   subst hnk;have Hy:Hid (imB L R=true):=im_yes (by rw[<-HN.out];exact hn) (by rw[<-HN.out,<-HK.out]) (by
    rw[<-HN.out];have e:i=k:=by omega
    rw[<-e];exact H1.out)
   have i1:(k:Int)<=i:=by omega
   have d1:((k:Int)==(k:Int))=true:=by simp
   clear hin hn;go_wp2_with fail
   refine(l1In_b (n:=(k:Int)) (lo:=1) (hi:=7) wr KW.out).mono ?_;rintro e w10 ⟨rfl,hb10⟩;clear e0 e1;replace HBr:=hh_ (HBr.keep hb10);replace HIr:=hh_ (HIr.keep hb10);clear hb10;have e0:=HIr.c0;have e1:=HIr.c1;go_wp2;go_ret;exact⟨ret_bool Hy.symm,HBr.below⟩
set_option maxHeartbeats 3200000
theorem grS_vg {p:Nat->Nat->Bool} {n b a:Nat} (h1:1<=n) (h7:n<=7):VG n (grS p n b a):=by
 refine⟨h1,h7,fun v _=>grS_lt,fun v hv=> ?_,fun v u hv hu=> ?_⟩
 ·unfold grS;rw[bmK_bit];simp[stB]
 ·unfold grS;rw[bmK_bit,bmK_bit,decide_eq_true hu,decide_eq_true hv];unfold stB;rw[Bool.or_comm]
theorem ae_gr {p:Nat->Nat->Bool} {n b a:Nat} (h7:n<=7) (hab:a<b) (hb:b<n) (hp:p a b=true):aeX (n:Int) n (fun j=>((grS p n b a j:Nat):Int)) b a=fun j=>((grS p n b (a+1) j:Nat):Int):=by
 have hok:okB (n:Int) n (fun j=>((grS p n b a j:Nat):Int))=true:=okB_yes ⟨_,rfl,grS_vg (by omega) h7,fun _ _=>rfl⟩;have hbit:((((grS p n b a (b:Int).toNat:Nat):Int)).toNat).testBit ((a:Int).toNat)=false:=by
  simp only[Int.toNat_natCast];unfold grS;rw[bmK_bit];simp[stB,show¬b<a by omega]
 have hae:aeB (n:Int) n (fun j=>((grS p n b a j:Nat):Int)) b a=true:=by
  unfold aeB;rw[hok,hbit,decide_eq_true (by omega)];rfl
 unfold aeX;rw[if_pos hae];funext j
 rw[grS_yes hp hab hb];simp only[Int.toNat_natCast,addN];congr 1;by_cases h:j=b
 ·subst h;rw[if_pos rfl,if_neg (by omega),if_pos rfl]
 ·rw[if_neg h];by_cases h2:j=a
  ·subst h2;rw[if_pos rfl,if_pos rfl]
  ·rw[if_neg h2,if_neg h2,if_neg h]
theorem IB.keepF {w w':World} {q lo hi:Nat} {Al:Option Addr} {n cl:Nat} {Ar:Option Addr} {k cr:Nat} (h:IB w q Al n cl Ar k cr) (hf:Fr lo hi w w') (hq:q<lo\/hi<=q):IB w' q Al n cl Ar k cr:=⟨frC_ hf h.c0 h.lt hq,frC_ hf h.c1 h.lt hq⟩
structure GW (w0 wr:World) (q:Nat) (n:Nat) (r:Nat->Nat):Prop where
 ex: ∃A c lo hi,GC wr q n A n c/\Own wr lo hi 3 1 A n c (fun j=> .int .i64 (r j:Nat))/\(hi<=q\/q+1<=lo)/\w0.heap.size+2<=lo/\hi<=wr.heap.size
theorem GW.congr {w0 wr:World} {q n:Nat} {r s:Nat->Nat} (h:GW w0 wr q n r) (e: ∀j,r j=s j):GW w0 wr q n s:=by
 obtain rfl:r=s:=funext e;exact h
theorem GW.drewN {w0 wr:World} {q n:Nat} {r:Nat->Nat} (h:GW w0 wr q n r) (k:Nat):GW w0 (wr.drewN k) q n r:=by
 obtain⟨A,c,lo,hi,h1,h2,h3,h4,h5⟩:=h.ex;exact⟨A,c,lo,hi,⟨h1.c0,h1.c1,h1.f0,h1.f1⟩,h2.drewN k,h3,h4,h5⟩
set_option maxRecDepth 100000 in
theorem GraphOfIntervals_s (Al:Option Addr) (n cl:Nat) (L:List Int) (Ar:Option Addr) (k cr:Nat) (R:List Int) (w:World) (hl:LI w Al n cl L) (hr:LI w Ar k cr R) (hnb:n<=1048576):
 Calls Tryz.prog 231 #[.agg #[.slice Al n cl,.slice Ar k cr]] w fun e w'=> ∃sz' A' m' c',e=.returned (.tuple #[.agg #[.int .i64 sz',.slice A' m' c'],.bool (imB L R)])/\(imB L R=true->sz'=(n:Int)/\m'=n/\Own w' w.heap.size w'.heap.size 3 1 A' n c' (fun j=> .int .i64 (ivR L R j:Nat)))/\Below w.heap.size w w':=by
 obtain⟨W,hW⟩: ∃W,W=((w.alloc (Obj.cells #[.slice Al n cl,.slice Ar k cr] 159)).alloc (Obj.cells #[.int .i64 0,.slice none 0 0] 26)):=⟨_,rfl⟩;have HB:Hid (From w W):=by rw[hW];exact(From.alloc _ _).alloc_ _
 have HL:=hh_ hl;have HR:=hh_ hr;have HI:Hid (IB W w.heap.size Al n cl Ar k cr):=by rw[hW];constructor<;>simp[go_sem]
 have HD:Hid (GC W (w.heap.size+1) 0 none 0 0):=by rw[hW];constructor<;>simp[go_sem]
 have HW:=hh_ hW;have HN:=hh_ hl.len;have HK:=hh_ hr.len;clear hW hl hr;have HLw:=hh_ (HL.keep HB.below);have HRw:=hh_ (HR.keep HB.below);go_enter Tryz.func231,Tryz.ntmps231;have e0:=HI.c0;have e1:=HI.c1;have d0:=HD.c0;have d1:=HD.c1;have d2:=HD.f0;have d3:=HD.f1;go_wp2_with fail
 rw[<-HW.out];refine(IsModel_s Al n cl L Ar k cr R W HLw.out HRw.out hnb).mono ?_;rintro e w1 ⟨rfl,hb1⟩;clear HW;clear e0 e1 d0 d1 d2 d3;replace HB:=hh_ (HB.keep hb1);replace HI:=hh_ (HI.keep hb1);replace HD:=hh_ (HD.keep hb1);clear hb1;have e0:=HI.c0;have e1:=HI.c1;have d0:=HD.c0;have d1:=HD.c1;have d2:=HD.f0;have d3:=HD.f1;clear HLw HRw;cases ho:imB L R
 ·have Ho:=hh_ ho;clear ho;go_wp2;have HE:=(HB.set (q:=w.heap.size+1) (by omega) (.int .i64 0) (.slice none 0 0)).below;exact bodyPost_ret (v:=.tuple #[.agg #[.int .i64 0,.slice none 0 0],.bool false]) (by simp[results,Tryz.results231,go_sem, *]) rfl ⟨0,none,0,0,by rw[Ho.out],(fun h=>by rw[Ho.out] at h;cases h),HE⟩
 ·obtain⟨h7,hk,_⟩:=im_parts ho;have Ho:=hh_ ho;have hkn:k=n:=by rw[HN.out,HK.out,hk]
  subst hkn;have hn1:1<=k:=by rw[HN.out];exact h7.1
  have hn7:k<=7:=by rw[HN.out];exact h7.2
  have Hrow:Hid (∀j,grS (jnB L R) k k 0 j=ivR L R j):=fun j=>by unfold ivR;rw[<-HN.out]
  obtain⟨p,hp⟩: ∃p,p=jnB L R:=⟨_,rfl⟩;rw[<-hp] at Hrow;have Hp:=hh_ hp;have hz1:w.heap.size+1<w1.heap.size:=HD.lt;obtain⟨W2,hmk,hO2,hb2⟩:=made_own w1 k (by omega);obtain⟨W3,hW3⟩: ∃W3,W3=(W2.alloc (Obj.cells #[.int .i64 k,.slice (some ⟨w1.heap.size,0,none⟩) k k] 26)):=⟨_,rfl⟩;have hb3:Below W2.heap.size W2 W3:=by rw[hW3];exact br_.alloc nr_ _
  have hq3:W2.heap.size<W3.heap.size:=by rw[hW3];simp
  have hz2:w1.heap.size+1<=W2.heap.size:=by
   rcases hO2 with ⟨h,_⟩|⟨g,cur,h1,_,h3,h4,_⟩
   ·cases h
   ·have:=(Array.getElem?_eq_some_iff.1 h4).1;simp only[Option.some.injEq,Addr.mk.injEq,and_true] at h1;omega
  have HB3:Hid (From w W3):=(HB.keep hb2).keep hb3;have HI3:Hid (IB W3 w.heap.size Al k cl Ar k cr):=(HI.keep hb2).keep hb3;have HD3:Hid (GC W3 (w.heap.size+1) 0 none 0 0):=(HD.keep hb2).keep hb3;have HG3:Hid (GW w W3 W2.heap.size k (grS p k 0 0)):=⟨⟨some ⟨w1.heap.size,0,none⟩,k,w1.heap.size,w1.heap.size+1,(by rw[hW3];exact GC.new _ _ _ _ _),(hO2.keepB hb3 hz2).congr (fun j _=>by rw[grS_zero];rfl),.inl hz2,by omega,by omega⟩⟩;have HW3:=hh_ hW3;have hqz:w.heap.size+1<W2.heap.size:=by omega
  clear ho h7 hk hp hW3 hb3 hO2 hb2;go_wp2_with fail
  rw[<-HW3.out];clear HW3 hmk HB HI HD e0 e1 d0 d1 d2 d3;go_loopw [6] (fun iv wr=> ∃b:Nat,b<=k/\iv=.int .i64 b/\Hid (GW w wr W2.heap.size k (grS p k b 0))/\Hid (IB wr w.heap.size Al k cl Ar k cr)/\Hid (GC wr (w.heap.size+1) 0 none 0 0)/\Hid (From w wr)) (fun iv _=>k-(intOf iv).toNat);case atStart=>exact⟨0,Nat.zero_le _,rfl,HG3,HI3,HD3,HB3⟩
  case round=>
   clear HG3 HI3 HD3 HB3;obtain⟨b,hb,rfl,HG,HI,HD,HB⟩:=hrel;by_cases hbn:b<k
   ·have i1:(b:Int)<k:=by omega
    go_wp2;go_loopw [7] (fun iv wr=> ∃a:Nat,a<=b/\iv=.int .i64 a/\Hid (GW w wr W2.heap.size k (grS p k b a))/\Hid (IB wr w.heap.size Al k cl Ar k cr)/\Hid (GC wr (w.heap.size+1) 0 none 0 0)/\Hid (From w wr)) (fun iv _=>b-(intOf iv).toNat);case atStart=>exact⟨0,Nat.zero_le _,rfl,HG,HI,HD,HB⟩
    case round=>
     clear HG HI HD HB;obtain⟨a,ha,rfl,HG,HI,HD,HB⟩:=hrel;by_cases hab:a<b
     ·have i2:(a:Int)<b:=by omega
      have i3:(a:Int)<k:=by omega
      have HLr:=hh_ (HL.keep HB.below);have HRr:=hh_ (HR.keep HB.below);obtain⟨bl,ol,rfl⟩:=HLr.addr (by omega);obtain⟨br,or_,rfl⟩:=HRr.addr (by omega);have p0:=HLr.at (show a<k by omega);have p1:=HRr.at hbn;have p2:=HLr.at hbn;have p3:=HRr.at (show a<k by omega);have e0:=HI.c0;have e1:=HI.c1;have HJ:p a b=(decide (L.getD a 0<=R.getD b 0)&&decide (L.getD b 0<=R.getD a 0)):=by rw[Hp.out];rfl
      obtain⟨la,hla⟩: ∃t,t=L.getD a 0:=⟨_,rfl⟩;obtain⟨lb,hlb⟩: ∃t,t=L.getD b 0:=⟨_,rfl⟩;obtain⟨ra,hra⟩: ∃t,t=R.getD a 0:=⟨_,rfl⟩;obtain⟨rb,hrb⟩: ∃t,t=R.getD b 0:=⟨_,rfl⟩;rw[<-hla] at p0 HJ;rw[<-hlb] at p2 HJ;rw[<-hra] at p3 HJ;rw[<-hrb] at p1 HJ;clear hla hlb hra hrb HLr HRr;cases hp:p a b
      ·rw[hp] at HJ;have HG':Hid (GW w wr W2.heap.size k (grS p k b (a+1))):=HG.congr fun j=>(grS_no hp).symm
       clear hp HG;by_cases h2:lb<=ra
       ·have h1: ¬la<=rb:=fun h1=>by rw[decide_eq_true h1,decide_eq_true h2] at HJ;cases HJ
        have d1:decide (lb<=ra)=true:=decide_eq_true h2;have d2:decide (la<=rb)=false:=decide_eq_false h1;have j2:rb<la:=by omega
        clear HJ h1;go_wp2;go_quiet (fail)
        go_wp2;go_roundw;case rel=>exact⟨a+1,by omega,by go_num,HG'.out.drewN _,⟨e0,e1⟩,⟨HD.c0,HD.c1,HD.f0,HD.f1⟩,HB.drewN _⟩
        case measure=>simp[intOf]<;>omega
       ·have d1:decide (lb<=ra)=false:=decide_eq_false h2;have j2:ra<lb:=by omega
        clear HJ h2;go_wp2;go_quiet (fail)
        go_wp2;go_roundw;case rel=>exact⟨a+1,by omega,by go_num,HG'.out.drewN _,⟨e0,e1⟩,⟨HD.c0,HD.c1,HD.f0,HD.f1⟩,HB.drewN _⟩
        case measure=>simp[intOf]<;>omega
      ·rw[hp] at HJ;have h1:la<=rb:=by
        refine Classical.byContradiction fun h=> ?_
        rw[decide_eq_false h] at HJ;cases HJ
       have h2:lb<=ra:=by
        refine Classical.byContradiction fun h=> ?_
        rw[decide_eq_false h,Bool.and_false] at HJ;cases HJ
       have d1:decide (lb<=ra)=true:=decide_eq_true h2;have d2:decide (la<=rb)=true:=decide_eq_true h1;obtain⟨A,c,lo,hi,hC,hO,ho1,ho2,ho3⟩:=HG.ex;have HC:=hh_ hC;have HO:=hh_ hO;have Hae:=hh_ (ae_gr hn7 hab hbn hp);have c0:=hC.c0;have c1:=hC.c1;clear HJ hp HG hC hO;go_wp2;go_quiet (fail)
       obtain⟨W4,hW4⟩: ∃W4,W4=wr.drewN nq:=⟨_,rfl⟩;rw[<-hW4];have HB4:Hid (From w W4):=by rw[hW4];exact HB.drewN _
       have HI4:Hid (IB W4 w.heap.size (some ⟨bl,ol,none⟩) k cl (some ⟨br,or_,none⟩) k cr):=by rw[hW4];exact⟨e0,e1⟩
       have HD4:Hid (GC W4 (w.heap.size+1) 0 none 0 0):=by rw[hW4];exact⟨HD.c0,HD.c1,HD.f0,HD.f1⟩
       have HC4:Hid (GC W4 W2.heap.size k A k c):=by rw[hW4];exact⟨HC.c0,HC.c1,HC.f0,HC.f1⟩
       have HO4:Hid (Own W4 lo hi 3 1 A k c (fun j=> .int .i64 (grS p k b a j:Nat))):=by rw[hW4];exact HO.drewN _
       have ho4:hi<=W4.heap.size:=by rw[hW4];exact ho3
       clear hW4 HB HI HD HC HO e0 e1 p0 p1 p2 p3 d1 d2 h1 h2 c0 c1;have c0:=HC4.c0;have c1:=HC4.c1;have hql:=HC4.lt;go_wp2_with fail
       refine(AddEdge_s (k:Int) A k c (fun j=>((grS p k b a j:Nat):Int)) b a W4 hi HO4.rd ho4 (by omega)).mono ?_;rintro e w5 ⟨A5,c5,rfl,hO5,hb5⟩;have hO6:Own w5 (W4.heap.size+2) w5.heap.size 3 1 A5 k c5 (fun j=> .int .i64 (grS p k b (a+1) j:Nat)):=hO5.congr fun j _=>by rw[Hae.out]
       have z5:=hb5.size;have F5:=fr2 w5 W2.heap.size (.int .i64 (k:Int)) (.slice A5 k c5);have HB5:=hh_ (HB4.keep hb5);have HI5:=hh_ ((HI4.keep hb5).keepF F5 (.inl (by omega)));have HD5:=hh_ ((HD4.keep hb5).keepF F5 (.inl (by omega)));have HB6:Hid (From w ((w5.setCell ⟨W2.heap.size,0,none⟩ (.int .i64 (k:Int))).setCell ⟨W2.heap.size,1,none⟩ (.slice A5 k c5))):=HB5.set (by omega) _ _;have HC5:=hh_ (HC4.keep hb5);have HG5:Hid (GW w ((w5.setCell ⟨W2.heap.size,0,none⟩ (.int .i64 (k:Int))).setCell ⟨W2.heap.size,1,none⟩ (.slice A5 k c5)) W2.heap.size k (grS p k b (a+1))):=⟨⟨A5,c5,W4.heap.size+2,w5.heap.size,HC5.set,hO6.keep F5 (.inr (by omega)),.inr (by omega),by have:=HB4.below.size;omega,F5.size⟩⟩;clear c0 c1;have c0:=HC5.c0;have c1:=HC5.c1;have c2:=HC5.f0;have c3:=HC5.f1;have hql5:=HC5.lt;clear hO5 hO6 hb5 F5 HB4 HI4 HD4 HC4 HO4 Hae
       go_wp2;go_roundw;case rel=>exact⟨a+1,by omega,by go_num,HG5,HI5,HD5,HB6⟩
       case measure=>simp[intOf]<;>omega
     ·have HG':Hid (GW w wr W2.heap.size k (grS p k (b+1) 0)):=HG.congr fun j=>by
       have e:a=b:=by omega
       rw[e,grS_next]
      have i2:(b:Int)<=a:=by omega
      go_wp2;go_roundw;case rel=>exact⟨b+1,by omega,by go_num,HG',HI,HD,HB⟩
      case measure=>simp[intOf]<;>omega
   ·obtain rfl:k=b:=by omega
    obtain⟨A,c,lo,hi,hC,hO,ho1,ho2,ho3⟩:=HG.ex;have e0:=hC.c0;have e1:=hC.c1;have d0:=HD.c0;have d1:=HD.c1;have d2:=HD.f0;have d3:=HD.f1;have hgl:=hC.lt;have hO':Own wr lo hi 3 1 A k c (fun j=> .int .i64 (ivR L R j:Nat)):=hO.congr (fun j _=>by rw[Hrow.out]);have HO:=hh_ hO';have F:=fr2 wr (w.heap.size+1) (.int .i64 (k:Int)) (.slice A k c);have HE:=(HB.set (q:=w.heap.size+1) (by omega) (.int .i64 (k:Int)) (.slice A k c)).below;have HOE:=hh_ ((hO'.keep F (.inr ho2)).mono (show w.heap.size<=lo by omega) (Nat.le_trans ho3 F.size));clear hC hO hO' HG;go_wp2;exact bodyPost_ret (v:=.tuple #[.agg #[.int .i64 (k:Int),.slice A k c],.bool true]) (by simp[results,Tryz.results231,go_sem, *]) rfl ⟨k,A,k,c,by rw[Ho.out],(fun _=>⟨rfl,rfl,HOE.out⟩),HE⟩
end Go.Proofs.YtfabbohijhjpcaaGreatDoor
