/- Lemmas. -/
import Derived.Test.YtfabbohijhjpcaaGreatDoorRbDrxP
import Derived.Test.YtfabbohijhjpcaaGreatDoorRbDrwN
/-
-/
namespace Go.Proofs.YtfabbohijhjpcaaGreatDoor
open Go.RowKit
set_option maxHeartbeats 3200000
theorem l1In_td {n lo hi:Int} (w:World) (h1:lo<=n) (h2:n<=hi):Calls Tryz.prog 68 #[.int .i64 n,.int .i64 lo,.int .i64 hi] w fun e w'=>e=.returned (.bool true)/\Below w.heap.size w w':=
 (l1In_any n lo hi w).mono fun e w' ⟨h,hw⟩=>⟨by rw[h,decide_eq_true h1,decide_eq_true h2];rfl,by rw[<-hw];exact br_⟩
theorem l1In_fd {n lo hi:Int} (w:World) (h:n<lo\/hi<n):Calls Tryz.prog 68 #[.int .i64 n,.int .i64 lo,.int .i64 hi] w fun e w'=>e=.returned (.bool false)/\Below w.heap.size w w':=
 (l1In_any n lo hi w).mono fun e w' ⟨h2,hw⟩=>⟨by
   rw[h2]
   rcases h with h|h
   ·rw[decide_eq_false (show¬lo<=n by omega)];rfl
   ·rw[decide_eq_false (show¬n<=hi by omega),Bool.and_false],by rw[<-hw];exact br_⟩
set_option maxRecDepth 100000 in
theorem IsPermutation_d (Al:Option Addr) (n cl:Nat) (L:List Int) (w:World) (hl:LI w Al n cl L) (hn:n<=1048576):
 Calls Tryz.prog 305 #[.slice Al n cl] w fun e w'=> ∃b:Bool,e=.returned (.bool b)/\(b=true->1<=n/\n<=7)/\Below w.heap.size w w':=by
 have KS:=hh_ (SetOf_s Al n cl L w hl hn);obtain⟨s,hs⟩: ∃s,s=soN L:=⟨_,rfl⟩;obtain⟨v,hv⟩: ∃v,v=vzB 7 L:=⟨_,rfl⟩;rw[<-hs,<-hv] at KS;clear hl hs hv;cases v
 ·go_enter Tryz.func305,Tryz.ntmps305;go_wp2_with fail
  refine KS.mono ?_;rintro e w1 ⟨rfl,rfl⟩;go_wp2;go_ret;exact⟨false,rfl,(fun h=>by cases h),br_⟩
 ·by_cases h17:1<=n/\n<=7
  ·obtain⟨h1,h7⟩:=h17;have KI:=hh_ (fun z:World=>l1In_td (n:=(n:Int)) (lo:=1) (hi:=7) z (by omega) (by omega));have p2:=pow_shl n h7;have pc:(2:Int)^n=((2^n:Nat):Int):=by simp
   have h128:=two_pow_le h7;have hpos:=Nat.two_pow_pos n;obtain⟨F,hF⟩: ∃F,F=2^n-1:=⟨_,rfl⟩;have s1:IntKind.i64.wrap ((2:Int)^n-1)=(F:Int):=by
    have:(2:Int)^n-1=(F:Int):=by rw[pc,hF];omega
    rw[this];exact Go.IntWalk.i64_in (F:Int) (by rw[hF];omega)
   have H1:=hh_ h1;clear hF pc h1;go_enter Tryz.func305,Tryz.ntmps305;go_wp2_with fail
   refine KS.mono ?_;rintro e w1 ⟨rfl,rfl⟩;go_wp2_with fail
   refine(KI.out w).mono ?_;rintro e w2 ⟨rfl,hb⟩;go_wp2;go_ret;exact⟨_,rfl,(fun _=>⟨H1.out,h7⟩),hb⟩
  ·have KI:=hh_ (fun z:World=>l1In_fd (n:=(n:Int)) (lo:=1) (hi:=7) z (by omega));clear h17;go_enter Tryz.func305,Tryz.ntmps305;go_wp2_with fail
   refine KS.mono ?_;rintro e w1 ⟨rfl,rfl⟩;go_wp2_with fail
   refine(KI.out w).mono ?_;rintro e w2 ⟨rfl,hb⟩;go_wp2;go_ret;exact⟨false,rfl,(fun h=>by cases h),hb⟩
def tgQ (w:World) (e:Ending) (w':World):Prop:=
 ∃(s:Int) (A':Option Addr) (m' c':Nat) (x:Nat->Int) (ok:Bool),e=.returned (.tuple #[.agg #[.int .i64 s,.slice A' m' c'],.bool ok])/\m'<=7/\Own w' w.heap.size w'.heap.size 3 1 A' m' c' (fun j=> .int .i64 (x j))/\Below w.heap.size w w'
set_option maxRecDepth 100000 in
theorem GraphOfThreshold_d (Al:Option Addr) (n cl:Nat) (L:List Int) (Ab:Option Addr) (nb cb:Nat) (d:Nat->Bool) (w:World) (hl:LI w Al n cl L) (hb:RdV w w.heap.size Ab nb cb (fun j=> .bool (d j))) (hn:n<=1048576) (hnb:nb<=1048576):
 Calls Tryz.prog 234 #[.slice Al n cl,.slice Ab nb cb] w (tgQ w):=by
 obtain⟨W,hW⟩: ∃W,W=(w.alloc (Obj.cells #[.int .i64 0,.slice none 0 0] 26)):=⟨_,rfl⟩;have HB:Hid (From w W):=by rw[hW];exact From.alloc _ _
 have HD:Hid (GC W w.heap.size 0 none 0 0):=by rw[hW];exact GC.new _ _ _ _ _
 have HL:Hid (∀z,Below w.heap.size w z->LI z Al n cl L):=fun z hz=>hl.keep hz
 have HBb:Hid (∀z,Below w.heap.size w z->RdV z z.heap.size Ab nb cb (fun j=> .bool (d j))):=fun z hz=>hb.keep hz hz.size
 have HLw:=hh_ hl;have HW:=hh_ hW;have KP:=hh_ (IsPermutation_d Al n cl L W (hl.keep HB.below) hn);clear hW hl hb;go_enter Tryz.func234,Tryz.ntmps234;go_wp2_with fail
 rw[<-HW.out];clear HW;refine KP.mono ?_;rintro e w1 ⟨b,rfl,h17,hb1⟩;replace HB:=hh_ (HB.keep hb1);replace HD:=hh_ (HD.keep hb1);clear hb1 KP;have d0:=HD.c0;have d1:=HD.c1;have d2:=HD.f0;have d3:=HD.f1;by_cases hgo:b=true/\nb=n
 rotate_left
 ·have HE:=(HB.set (q:=w.heap.size) nr_ (.int .i64 0) (.slice none 0 0)).below;have hcase:b=false\/(b=true/\nb≠n):=by
   cases b
   ·exact .inl rfl
   ·exact .inr ⟨rfl,fun h=>hgo ⟨rfl,h⟩⟩
  clear hgo h17;rcases hcase with rfl|⟨rfl,hne⟩
  ·go_wp2;exact bodyPost_ret (v:=.tuple #[.agg #[.int .i64 0,.slice none 0 0],.bool false]) (by simp[results,Tryz.results234,go_sem, *]) rfl ⟨0,none,0,0,fun _=>0,false,rfl,by omega,Own.nil _ _ _ _ _ _,HE⟩
  ·have i0:((nb:Int) !=(n:Int))=true:=by simp;omega
   clear hne;go_wp2;exact bodyPost_ret (v:=.tuple #[.agg #[.int .i64 0,.slice none 0 0],.bool false]) (by simp[results,Tryz.results234,go_sem, *]) rfl ⟨0,none,0,0,fun _=>0,false,rfl,by omega,Own.nil _ _ _ _ _ _,HE⟩
 ·obtain⟨rfl,rfl⟩:=hgo;obtain⟨hn1,hn7⟩:=h17 rfl;have hz1:w.heap.size<w1.heap.size:=HD.lt;obtain⟨W2,hmk,hO2,hb2⟩:=made_own w1 nb (by omega);obtain⟨W3,hW3⟩: ∃W3,W3=(W2.alloc (Obj.cells #[.int .i64 nb,.slice (some ⟨w1.heap.size,0,none⟩) nb nb] 26)):=⟨_,rfl⟩;have hb3:Below W2.heap.size W2 W3:=by rw[hW3];exact br_.alloc nr_ _
  have hq3:W2.heap.size<W3.heap.size:=by rw[hW3];simp
  have hz2:w1.heap.size+1<=W2.heap.size:=by
   rcases hO2 with ⟨h,_⟩|⟨g,cur,h1,_,h3,h4,_⟩
   ·cases h
   ·have:=(Array.getElem?_eq_some_iff.1 h4).1;simp only[Option.some.injEq,Addr.mk.injEq,and_true] at h1;omega
  have HB3:Hid (From w W3):=(HB.keep hb2).keep hb3;have HD3:Hid (GC W3 w.heap.size 0 none 0 0):=(HD.keep hb2).keep hb3;have HG3:Hid (GU W3 W2.heap.size (w.heap.size+1) nb):=⟨some ⟨w1.heap.size,0,none⟩,nb,_,(by rw[hW3];exact GC.new _ _ _ _ _),((hO2.keepB hb3 hz2).mono (by omega) (by omega)).congr (fun j _=>(rfl:Value.int .i64 ((fun _:Nat=>(0:Int)) j)=_)),fun e=>by
   simp only[Option.some.injEq,Addr.mk.injEq,and_true] at e;omega⟩
  have HW3:=hh_ hW3;have hqz:w.heap.size<W2.heap.size:=by omega
  clear hW3 hb3 hO2 hb2 h17;go_wp2_with fail
  rw[<-HW3.out];clear HW3 hmk HB HD d0 d1 d2 d3;go_loopw [7] (fun iv wr=> ∃i:Nat,i<=nb/\iv=.int .i64 i/\Hid (GU wr W2.heap.size (w.heap.size+1) nb)/\Hid (GC wr w.heap.size 0 none 0 0)/\Hid (From w wr)) (fun iv _=>nb-(intOf iv).toNat);case atStart=>exact⟨0,Nat.zero_le _,rfl,HG3,HD3,HB3⟩
  case round=>
   clear HG3 HD3 HB3;obtain⟨i,hi,rfl,HG,HD,HB⟩:=hrel;by_cases hin:i<nb
   ·have i1:(i:Int)<nb:=by omega
    go_wp2;go_loopw [8] (fun iv wr=> ∃k:Nat,k<=i/\iv=.int .i64 k/\Hid (GU wr W2.heap.size (w.heap.size+1) nb)/\Hid (GC wr w.heap.size 0 none 0 0)/\Hid (From w wr)) (fun iv _=>i-(intOf iv).toNat);case atStart=>exact⟨0,Nat.zero_le _,rfl,HG,HD,HB⟩
    case round=>
     clear HG HD HB;obtain⟨k,hk,rfl,HG,HD,HB⟩:=hrel;by_cases hki:k<i
     ·have i2:(k:Int)<i:=by omega
      have i3:(k:Int)<nb:=by omega
      obtain⟨bb,ob,rfl,_,hcb⟩:=(HBb.out wr HB.below).2 (by omega);have qb:=hcb i hin;dsimp only at qb;clear hcb;obtain⟨t,ht⟩: ∃t,t=d i:=⟨_,rfl⟩;rw[<-ht] at qb;clear ht;cases t
      ·go_wp2;go_roundw;case rel=>exact⟨i+1,by omega,by go_num,HG,HD,HB⟩
       case measure=>simp[intOf]<;>omega
      ·obtain⟨b,o,rfl⟩:=HLw.addr (by omega);have hbw:b<w.heap.size:=World.block_lt_of_cell? _ _ (HLw.at hin);have p0:=(HL.out wr HB.below).at hin;have p1:=(HL.out wr HB.below).at (show k<nb by omega);obtain⟨l0,hl0⟩: ∃l0,l0=L.getD i 0:=⟨_,rfl⟩;obtain⟨l1,hl1⟩: ∃l1,l1=L.getD k 0:=⟨_,rfl⟩;rw[<-hl0] at p0;rw[<-hl1] at p1;clear hl0 hl1;obtain⟨B',d',x',hU,hP,_⟩:=HG.ex;have HU:=hh_ hU;have hUl:=hU.lt;have e0:=hU.c0;have e1:=hU.c1;have KD:Hid (Calls Tryz.prog 91 #[.agg #[.int .i64 (nb:Int),.slice B' nb d'],.int .i64 l0,.int .i64 l1] wr.drew fun e w'=> ∃(A2:Option Addr) (c2:Nat) (t2:Bool) (y2:Nat->Int),e=.returned (.tuple #[.agg #[.int .i64 (nb:Int),.slice A2 nb c2],.bool t2])/\Own w' (wr.heap.size+2) w'.heap.size 3 1 A2 nb c2 (fun j=> .int .i64 (y2 j))/\Below wr.heap.size wr.drew w'):=by
        refine(AddEdge_s (nb:Int) B' nb d' x' l0 l1 wr.drew wr.heap.size hP.drew.rd nr_ (by omega)).mono ?_;rintro e w' ⟨A2,c2,h3,h4,h5⟩;exact⟨A2,c2,_,_,h3,h4,h5⟩
       have hbl:=World.block_lt_of_cell? _ _ p0;have ns1:b<W2.heap.size\/W2.heap.size+1<=b:=.inl (by omega);clear hU hP;go_wp2;refine wp_region_held_drew (S:=fun z=>z.cell? ⟨b,o+i,none⟩=some (.int .i64 l0)/\z.cell? ⟨b,o+k,none⟩=some (.int .i64 l1)) (by kernel_rfl) ⟨p0,p1⟩ (fun hHeld=> ?_);refine pcY 1 ?_;iterate 7 (refine ptY ?_)
       refine w1H 0 (fun K hK=> ?_);go_simp;refine hK.out _ _ ⟨p0,p1⟩ (fun hHeld=> ?_);clear hK K;try simp only[Act.put,sl0,sl1,sl2]
       refine w1H 9 (fun K hK=> ?_);go_simp;go_at_call 91;refine(KD.out).mono ?_
       rintro e w6 ⟨A6,c6,t6,y6,rfl,ho6,hb6⟩;have HU6:=hh_ ((⟨HU.c0,HU.c1,HU.f0,HU.f1⟩:GC wr.drew W2.heap.size (nb:Int) B' nb d').keep hb6);have q0:=HU6.c0;have q1:=HU6.c1;have q2:=HU6.f0;have q3:=HU6.f1;have F6:=fr2 w6 W2.heap.size (.int .i64 (nb:Int)) (.slice A6 nb c6);have S6:w6.cell? ⟨b,o+i,none⟩=some (.int .i64 l0)/\w6.cell? ⟨b,o+k,none⟩=some (.int .i64 l1):=⟨up hb6 p0 hbl,up hb6 p1 hbl⟩;have hz6:wr.heap.size<=w6.heap.size:=hb6.size;refine hK.out _ _ S6 (fun hHeld=> ?_);clear hK K;try simp only[Act.put,sl0,sl1,sl2]
       iterate 3 (refine ptY ?_)
       refine w1H 13 (fun K hK=> ?_);go_simp;refine hK.out _ _ ⟨frC_ F6 S6.1 (by omega) ns1,frC_ F6 S6.2 (by omega) ns1⟩ (fun hHeld=> ?_);clear hK K;try simp only[Act.put,sl0,sl1,sl2]
       refine wpAnyH_done (by kernel_rfl) ?_ _;have hb6':Below wr.heap.size wr w6:=⟨hb6.os,hb6.tape,hb6.output,hb6.size,hb6.block⟩;have HG7:Hid (GU ((w6.setCell ⟨W2.heap.size,0,none⟩ (.int .i64 (nb:Int))).setCell ⟨W2.heap.size,1,none⟩ (.slice A6 nb c6)) W2.heap.size (w.heap.size+1) nb):=GU.set HU6.out (ho6.mono (by omega) nr_) (by omega);have HB7:Hid (From w ((w6.setCell ⟨W2.heap.size,0,none⟩ (.int .i64 (nb:Int))).setCell ⟨W2.heap.size,1,none⟩ (.slice A6 nb c6))):=(HB.keep hb6').set (by omega) _ _;have HD7:Hid (GC ((w6.setCell ⟨W2.heap.size,0,none⟩ (.int .i64 (nb:Int))).setCell ⟨W2.heap.size,1,none⟩ (.slice A6 nb c6)) w.heap.size 0 none 0 0):=(HD.keep hb6').keepF F6 (.inl (by omega));clear ho6 hb6 hb6' KD e0 e1 p0 p1 qb HU HG HB HD HU6 F6 S6 q0 q1 q2 q3;go_wp2;go_roundw;case rel=>exact⟨k+1,by omega,by go_num,HG7,HD7,HB7⟩
       case measure=>simp[intOf]<;>omega
     ·have i2:(i:Int)<=k:=by omega
      go_wp2;go_roundw;case rel=>exact⟨i+1,by omega,by go_num,HG,HD,HB⟩
      case measure=>simp[intOf]<;>omega
   ·obtain rfl:i=nb:=by omega
    obtain⟨A,c,x,hC,hO,_⟩:=HG.ex;have e0:=hC.c0;have e1:=hC.c1;have d0:=HD.c0;have d1:=HD.c1;have d2:=HD.f0;have d3:=HD.f1;have F:=fr2 wr w.heap.size (.int .i64 (i:Int)) (.slice A i c);have HE:=(HB.set (q:=w.heap.size) nr_ (.int .i64 (i:Int)) (.slice A i c)).below;have HOE:=hh_ ((hO.keep F (.inr nr_)).mono (show w.heap.size<=w.heap.size+1 by omega) F.size);clear hC hO HG;go_wp2;exact bodyPost_ret (v:=.tuple #[.agg #[.int .i64 (i:Int),.slice A i c],.bool true]) (by simp[results,Tryz.results234,go_sem, *]) rfl ⟨i,A,i,c,x,true,rfl,by omega,HOE.out,HE⟩
set_option maxHeartbeats 6400000
section
variable {w z z':World} {q nb cb n1 c1 X g cB:Nat} {A A1:Option Addr} {f:Nat->Int} {T:List Bool}
structure DB (w z:World) (q:Nat) (A:Option Addr) (nb cb:Nat) (A1:Option Addr) (n1 c1:Nat) (f:Nat->Int) (X g cB:Nat) (T:List Bool):Prop where
 dd:D0 w z q A nb cb
 p:Own z (w.heap.size+1) X 3 1 A1 n1 c1 (fun j=> .int .i64 (f j))
 b:Own z g (g+1) 4 1 (some ⟨g,0,none⟩) T.length cB (blL T)
 l2:w.heap.size<X
 l3:X<=g
 l4:g<z.heap.size
theorem DB.draw (h:DB w z q A nb cb A1 n1 c1 f X g cB T) (hd:Dr z q A nb cb z'):DB w z' q A nb cb A1 n1 c1 f X g cB T:=by
 have h1:=h.dd.l1;have h2:=h.l2;have h3:=h.l3;exact⟨h.dd.draw hd,h.p.keep hd.fr (.inr (by omega)),h.b.keep hd.fr (.inr (by omega)),h2,h3,Nat.lt_of_lt_of_le h.l4 hd.fr.size⟩
theorem DB.push {g' c':Nat} {k:Bool} (h:DB w z q A nb cb A1 n1 c1 f X g cB T) (hO:Own z' g' (g'+1) 4 1 (some ⟨g',0,none⟩) (T.length+1) c' (blL (T++ [k]))) (hg:g'=g\/z.heap.size<g') (hl:g'<z'.heap.size) (hf:Fr g (g+1) z z'):DB w z' q A nb cb A1 n1 c1 f X g' c' (T++ [k]):=by
 have h1:=h.dd.l1;have h2:=h.l2;have h3:=h.l3;have h4:=h.l4;refine⟨⟨h.dd.cu.keepF hf (by omega),h.dd.fr.past hf (by omega),h.dd.d.keepF hf (.inl (by omega)),h1⟩,h.p.keep hf (.inl h3),by rw[List.length_append];exact hO,h2,by omega,hl⟩
end
section
variable {w:World} {q nb cb:Nat} {A:Option Addr}
set_option maxRecDepth 100000 in
theorem l19Graph_s (hc:Cu w q A nb cb):Calls Tryz.prog 159 #[.pointer (some ⟨q,0,none⟩)] w (dgR w q A nb cb):=by
 obtain⟨W,hW⟩: ∃W,W=(w.alloc (Obj.cells #[.int .i64 0,.slice none 0 0] 26)):=⟨_,rfl⟩;have HD:Hid (D0 w W q A nb cb):=by rw[hW];exact D0.new hc
 have HW:=hh_ hW;have KB:=hh_ (l1Once_s (k:=3) HD.cu (by omega) (by omega));clear hW hc;go_enter Tryz.func159,Tryz.ntmps159;go_wp2_with fail
 rw[<-HW.out];clear HW;refine KB.mono ?_;rintro e w1 ⟨y,rfl,hd⟩;replace HD:=hh_ (HD.draw hd);clear hd KB;have hq2:=HD.lt;cases y
 rotate_left
 ·have KR:=hh_ (l18Graph_s HD.cu);go_wp2_with fail
  refine KR.mono ?_;rintro e w3 ⟨sz,B,m,d,x,rfl,hm7,ho,hd⟩;have HD3:=hh_ (HD.draw hd);have HF:=hh_ (dgR.fin0 (sz:=sz) hm7 HD3.cu HD3.fr HD3.l1 ho hq2);have d0:=HD3.d.c0;have d1:=HD3.d.c1;have d2:=HD3.d.f0;have d3:=HD3.d.f1;clear ho hd KR HD;go_wp2;exact bodyPost_ret (v:=.agg #[.int .i64 sz,.slice B m d]) (by simp[results,Tryz.results159,go_sem, *]) rfl HF.out
 ·have KP:=hh_ (l14Permutation_s HD.cu);go_wp2_with fail
  refine KP.mono ?_;rintro e w3 ⟨A1,n1,c1,f,rfl,hn7,ho,hd⟩;replace HD:=hh_ (HD.draw hd);obtain⟨W4,hW4⟩: ∃W4,W4=w3.alloc (Obj.cells #[] 4):=⟨_,rfl⟩;have HX:Hid (DB w W4 q A nb cb A1 n1 c1 f w3.heap.size w3.heap.size 0 []):=by
   have hb:Below w3.heap.size w3 W4:=by rw[hW4];exact br_.alloc nr_ _
   exact⟨HD.keep hb,(ho.keepB hb nr_).mono (by omega) nr_,by rw[hW4];exact bl_nil w3,HD.lt,nr_,by rw[hW4];simp⟩
  have HW4:=hh_ hW4;clear hW4 ho hd KP HD;go_wp2;rw[<-HW4.out];clear HW4;go_loopw [4,5] (fun l i wr=> ∃(k g cB:Nat) (T:List Bool),k<=n1/\Hid (T.length=k)/\i=.int .i64 k/\l=.slice (some ⟨g,0,none⟩) k cB/\Hid (DB w wr q A nb cb A1 n1 c1 f w3.heap.size g cB T)) (fun _ i _=>n1-(intOf i).toNat);case atStart=>exact⟨0,_,0,[],Nat.zero_le _,rfl,rfl,rfl,HX⟩
  case round=>
   clear HX;obtain⟨k,g,cB,T,hk,HT,rfl,rfl,HX⟩:=hrel;by_cases hkn:k<n1
   ·have i1:(k:Int)<n1:=by omega
    have KB:=hh_ (l1Once_s (k:=2) HX.dd.cu (by omega) (by omega));obtain rfl:=HT.out;go_wp2_with fail
    refine KB.mono ?_;rintro e w5 ⟨y,rfl,hd⟩;replace HX:=hh_ (HX.draw hd);have hb5:=hh_ HX.b;have hg5:=HX.l4;clear hd KB;go_wp2_with (first|(at_builtin;(refine wpList_pushBl w5 rfl _ _ rfl g cB T hb5.out hg5 y rfl 1 w5.heap.size rfl rfl (by omega) ?_;intro g6 c6 w6 hO6 hg6 hl6 hf6)))
    have HX6:=hh_ (HX.push hO6 hg6 hl6 hf6);clear hO6 hg6 hl6 hf6 hb5;go_roundw;case rel=>exact⟨T.length+1,g6,c6,T++ [y],by omega,by show _=_;simp,by go_num,rfl,HX6⟩
    case measure=>simp[intOf]<;>omega
   ·obtain rfl:k=n1:=by omega
    have i1:(k:Int)<=k:=Int.le_refl _;have KT:Hid (Calls Tryz.prog 234 #[.slice A1 k c1,.slice (some ⟨g,0,none⟩) k cB] wr (tgQ wr)):=by
     have hr:RdV wr wr.heap.size (some ⟨g,0,none⟩) T.length cB (fun j=> .bool (T.getD j false)):=HX.b.rdV.keep br_ HX.l4;rw[HT.out] at hr;exact GraphOfThreshold_d A1 k c1 _ (some ⟨g,0,none⟩) k cB (fun j=>T.getD j false) wr (LI.of HX.p.rd (by have:=HX.l3;have:=HX.l4;omega)) hr (by omega) (by omega)
    go_wp2_with fail
    refine KT.mono ?_;rintro e w5 ⟨s,A',m',c',x,ok,rfl,hm7,ho,hb⟩;have HD5:=hh_ (HX.dd.keep hb);have hwr:w.heap.size<wr.heap.size:=HX.dd.lt;have HE:=hh_ ((dgR.fin0 (sz:=s) hm7 HD5.cu HD5.fr HD5.l1 ho hwr).below (br_.alloc nr_ (Obj.cells #[.int .i64 s,.slice A' m' c'] 26)));have d0:=HD5.d.c0;have d1:=HD5.d.c1;have d2:=HD5.d.f0;have d3:=HD5.d.f1;have hl5:=HD5.lt;have j1:(w.heap.size=w5.heap.size)=False:=by simp;omega
    have j2:(w5.heap.size=w.heap.size)=False:=by simp;omega
    clear hb ho KT HX;go_wp2;exact bodyPost_ret (v:=.agg #[.int .i64 s,.slice A' m' c']) (by simp[results,Tryz.results159,go_sem, *]) rfl HE.out
end
section
variable {w z z':World} {q nb cb Q X m d m2 d2 m3 d3:Nat} {A B B2 B3:Option Addr} {x x2 x3:Nat->Int}
theorem aeX_lt {sz:Int} {v u:Int} (h7:sz<=7) (h: ∀j,j<m->0<=x j/\x j<128): ∀j,j<m->0<=aeX sz m x v u j/\aeX sz m x v u j<128:=by
 intro j hj;unfold aeX;split
 ·rename_i hb;obtain⟨_,h2,_⟩:=aeB_parts hb;have hp: ∀k:Nat,k<7->2^k<2^7:=fun k hk=>Nat.pow_lt_pow_right (by omega) hk
  have hx:(x j).toNat<2^7:=by have:=h j hj;omega
  have hn:addN (fun i=>(x i).toNat) v.toNat u.toNat j<128:=by
   unfold addN;split
   ·rename_i e;exact Nat.xor_lt_two_pow hx (hp _ (by omega))
   ·split
    ·exact Nat.xor_lt_two_pow hx (hp _ (by omega))
    ·exact hx
  show 0<=((_:Nat):Int)/\((_:Nat):Int)<128;omega
 ·exact h j hj
theorem GC.of_heap (h:w.heap[X]? =some (.cells #[.int .i64 0,.slice none 0 0] 26 (0,0))):GC w X 0 none 0 0:=
 ⟨by rw[cell_of_row w X 0 _ _ _ h];rfl,by rw[cell_of_row w X 1 _ _ _ h];rfl,frozen_of_row w X 0 _ _ h,frozen_of_row w X 1 _ _ h⟩
theorem Own.not_graph {lo hi n c:Nat} {f:Nat->Value} {D:Array Value} (ho:Own w lo hi 3 1 A n c f) (h:w.heap[X]? =some (.cells D 26 (0,0))):A≠some ⟨X,0,none⟩:=by
 rintro rfl;rcases ho with ⟨h1,_⟩|⟨g,cur,k1,_,_,k4,_⟩
 ·cases h1
 ·simp only[Option.some.injEq,Addr.mk.injEq,and_true] at k1;subst k1;rw[k4] at h;simp only[Option.some.injEq,Obj.cells.injEq] at h;exact absurd h.2.1 (by decide)
structure DK (w z:World) (q:Nat) (A:Option Addr) (nb cb Q m:Nat) (B:Option Addr) (d:Nat) (x:Nat->Int):Prop where
 dd:D0 w z q A nb cb
 g:GC z Q (m:Int) B m d
 o:Own z (w.heap.size+1) z.heap.size 3 1 B m d (fun j=> .int .i64 (x j))
 ne:B≠some ⟨Q,0,none⟩
 l:w.heap.size<Q
 lt: ∀j,j<m->0<=x j/\x j<128
theorem D0.keepX (h:D0 w z q A nb cb) (hf:Fr X (X+1) z z') (hX:w.heap.size<X):D0 w z' q A nb cb:=by
 have h1:=h.l1;exact⟨h.cu.keepF hf (by omega),h.fr.past hf (by omega),h.d.keepF hf (.inl (by omega)),h1⟩
theorem DK.keep (h:DK w z q A nb cb Q m B d x) (hb:Below z.heap.size z z'):DK w z' q A nb cb Q m B d x:=
 ⟨h.dd.keep hb,h.g.keep hb,(h.o.keepB hb nr_).mono nr_ hb.size,h.ne,h.l,h.lt⟩
theorem DK.draw (h:DK w z q A nb cb Q m B d x) (hd:Dr z q A nb cb z'):DK w z' q A nb cb Q m B d x:=by
 have h1:=h.dd.l1;have h2:=h.l;exact⟨h.dd.draw hd,h.g.keepF hd.fr (.inr (by omega)),(h.o.keep hd.fr (.inr (by omega))).mono nr_ hd.fr.size,h.ne,h2,h.lt⟩
theorem DK.keepX (h:DK w z q A nb cb Q m B d x) (hf:Fr X (X+1) z z') (hX:Q<X) (hne:B≠some ⟨X,0,none⟩):DK w z' q A nb cb Q m B d x:=by
 have h2:=h.l;exact⟨h.dd.keepX hf (by omega),h.g.keepF hf (.inl hX),(h.o.keep1 hf hne).mono nr_ hf.size,h.ne,h2,h.lt⟩
theorem DK.lt_ (h:DK w z q A nb cb Q m B d x):Q<z.heap.size:=h.g.lt
structure DH (w z:World) (q:Nat) (A:Option Addr) (nb cb Q m:Nat) (B:Option Addr) (d:Nat) (x:Nat->Int) (X m2:Nat) (B2:Option Addr) (d2:Nat) (x2:Nat->Int):Prop where
 k:DK w z q A nb cb Q m B d x
 g:GC z X (m2:Int) B2 m2 d2
 o:Own z (Q+1) z.heap.size 3 1 B2 m2 d2 (fun j=> .int .i64 (x2 j))
 ne:B2≠some ⟨X,0,none⟩
 kne:B≠some ⟨X,0,none⟩
 l:Q<X
 lt: ∀j,j<m2->0<=x2 j/\x2 j<128
theorem DH.keep (h:DH w z q A nb cb Q m B d x X m2 B2 d2 x2) (hb:Below z.heap.size z z'):DH w z' q A nb cb Q m B d x X m2 B2 d2 x2:=
 ⟨h.k.keep hb,h.g.keep hb,(h.o.keepB hb nr_).mono nr_ hb.size,h.ne,h.kne,h.l,h.lt⟩
theorem DH.draw (h:DH w z q A nb cb Q m B d x X m2 B2 d2 x2) (hd:Dr z q A nb cb z'):DH w z' q A nb cb Q m B d x X m2 B2 d2 x2:=by
 have h1:=h.k.dd.l1;have h2:=h.k.l;have h3:=h.l;exact⟨h.k.draw hd,h.g.keepF hd.fr (.inr (by omega)),(h.o.keep hd.fr (.inr (by omega))).mono nr_ hd.fr.size,h.ne,h.kne,h3,h.lt⟩
theorem DH.set (h:DH w z q A nb cb Q m B d x X m2 B2 d2 x2) (hb:Below z.heap.size z z') (ho:Own z' z.heap.size z'.heap.size 3 1 B3 m2 d3 (fun j=> .int .i64 (x3 j))) (hlt: ∀j,j<m2->0<=x3 j/\x3 j<128):
 DH w ((z'.setCell ⟨X,0,none⟩ (.int .i64 (m2:Int))).setCell ⟨X,1,none⟩ (.slice B3 m2 d3)) q A nb cb Q m B d x X m2 B3 d3 x3:=by
 have hf:=fr2 z' X (.int .i64 (m2:Int)) (.slice B3 m2 d3);have hXl:=h.g.lt;have h3:=h.l;have hne:B3≠some ⟨X,0,none⟩:=by
  rcases ho.at_block with e|⟨g,e,hg,_⟩
  ·rw[e];exact fun h=>by cases h
  ·rw[e];intro h;simp only[Option.some.injEq,Addr.mk.injEq,and_true] at h;omega
 exact⟨(h.k.keep hb).keepX hf h3 h.kne,(h.g.keep hb).set,((ho.keep1 hf hne).mono (by omega) hf.size),hne,h.kne,h3,hlt⟩
theorem DH.copy (h:DH w z q A nb cb Q m B d x X m2 B2 d2 x2):DK w ((z.setCell ⟨Q,0,none⟩ (.int .i64 (m2:Int))).setCell ⟨Q,1,none⟩ (.slice B2 m2 d2)) q A nb cb Q m2 B2 d2 x2:=by
 have hf:=fr2 z Q (.int .i64 (m2:Int)) (.slice B2 m2 d2);have h2:=h.k.l;have hne:B2≠some ⟨Q,0,none⟩:=by
  rcases h.o.at_block with e|⟨g,e,hg,_⟩
  ·rw[e];exact fun h=>by cases h
  ·rw[e];intro h;simp only[Option.some.injEq,Addr.mk.injEq,and_true] at h;omega
 exact⟨h.k.dd.keepX hf h2,h.k.g.set,((h.o.keep1 hf hne).mono (by omega) hf.size),hne,h2,h.lt⟩
theorem DH.newA (h:DK w z q A nb cb Q m B d x) (hb:Below z.heap.size z z') (hX:z'.heap[X]? =some (.cells #[.int .i64 0,.slice none 0 0] 26 (0,0))) (hzX:z.heap.size<=X) (ho:Own z' z.heap.size z'.heap.size 3 1 B2 m2 d2 (fun j=> .int .i64 (x2 j))) (hlt: ∀j,j<m2->0<=x2 j/\x2 j<128):
 DH w ((z'.setCell ⟨X,0,none⟩ (.int .i64 (m2:Int))).setCell ⟨X,1,none⟩ (.slice B2 m2 d2)) q A nb cb Q m B d x X m2 B2 d2 x2:=by
 have hf:=fr2 z' X (.int .i64 (m2:Int)) (.slice B2 m2 d2);have hQ:=h.lt_;have hk:=h.keep hb;have hne:=ho.not_graph hX;have hkne:=hk.o.not_graph hX;exact⟨hk.keepX hf (by omega) hkne,(GC.of_heap hX).set,((ho.keep1 hf hne).mono (by omega) hf.size),hne,hkne,by omega,hlt⟩
theorem DH.newB (h:DK w z q A nb cb Q m B d x) (hb:Below z.heap.size z z') (ho:Own z' z.heap.size z'.heap.size 3 1 B2 m2 d2 (fun j=> .int .i64 (x2 j))) (hlt: ∀j,j<m2->0<=x2 j/\x2 j<128):
 DH w (z'.alloc (Obj.cells #[.int .i64 (m2:Int),.slice B2 m2 d2] 26)) q A nb cb Q m B d x z'.heap.size m2 B2 d2 x2:=by
 have hQ:=h.lt_;have hs:=hb.size;have hba:Below z'.heap.size z' (z'.alloc (Obj.cells #[.int .i64 (m2:Int),.slice B2 m2 d2] 26)):=br_.alloc nr_ _;have out: ∀ {A5:Option Addr} {lo n c:Nat} {f:Nat->Value},Own z' lo z'.heap.size 3 1 A5 n c f->A5≠some ⟨z'.heap.size,0,none⟩:=by
  intro A5 lo n c f ho;rcases ho.at_block with e|⟨g,e,_,hg⟩
  ·rw[e];exact fun h=>by cases h
  ·rw[e];intro h;simp only[Option.some.injEq,Addr.mk.injEq,and_true] at h;omega
 exact⟨(h.keep hb).keep hba,GC.new _ _ _ _ _,(ho.alloc _).mono (by omega) (by simp),out ho,out (h.keep hb).o,by omega,hlt⟩
theorem DK.init (h:D0 w z q A nb cb):DK w ((z.alloc (Obj.cells #[.int .i64 0] 3)).alloc (Obj.cells #[.int .i64 1,.slice (some ⟨z.heap.size,0,none⟩) 1 1] 26)) q A nb cb (z.heap.size+1) 1 (some ⟨z.heap.size,0,none⟩) 1 (fun _=>0):=by
 have hl:=h.lt;have hb:Below z.heap.size z (z.alloc (Obj.cells #[.int .i64 0] 3)):=br_.alloc nr_ _;have hz:(z.alloc (Obj.cells #[.int .i64 0] 3)).heap.size=z.heap.size+1:=by simp
 have ho:Own (z.alloc (Obj.cells #[.int .i64 0] 3)) z.heap.size (z.heap.size+1) 3 1 (some ⟨z.heap.size,0,none⟩) 1 1 (fun _=> .int .i64 0):=
  .inr ⟨z.heap.size,_,rfl,nr_,Nat.lt_succ_self _,heap_alloc_new z _,nr_,by unfold maxLen;omega,rfl,fun j hj=>by
   obtain rfl:j=0:=by omega
   rfl⟩
 refine⟨h.keep (hb.alloc (by omega) _),?_,(ho.alloc _).mono (by omega) (by simp),?_,by omega,fun j hj=>by omega⟩
 ·have:=GC.new (z.alloc (Obj.cells #[.int .i64 0] 3)) 1 (some ⟨z.heap.size,0,none⟩) 1 1;rw[hz] at this;exact this
 ·intro e;simp only[Option.some.injEq,Addr.mk.injEq,and_true] at e;omega
theorem DK.fin (h:DK w z q A nb cb Q m B d x) (h7:m<=7):dgR w q A nb cb (.returned (.agg #[.int .i64 (m:Int),.slice B m d])) ((z.setCell ⟨w.heap.size,0,none⟩ (.int .i64 (m:Int))).setCell ⟨w.heap.size,1,none⟩ (.slice B m d)):=
 dgR.fin0 h7 h.dd.cu h.dd.fr h.dd.l1 h.o (Nat.lt_succ_self _)
def rw0 (m:Nat) (x:Nat->Int) (j:Nat):Int:=if j<m then x j else 0
theorem rw0_lt (h: ∀j,j<m->0<=x j/\x j<128): ∀j,j<m+1->0<=rw0 m x j/\rw0 m x j<128:=by
 intro j _;unfold rw0;split
 ·exact h j (by assumption)
 ·omega
theorem rw0_own {lo hi:Nat} (ho:Own z lo hi 3 1 B m d (fun j=> .int .i64 (x j))):Own z lo hi 3 1 B m d (fun j=> .int .i64 (rw0 m x j)):=
 ho.congr fun j hj=>by unfold rw0;rw[if_pos (by omega)]
theorem rw0_news: ∀i,i<1->(#[.int .i64 0]:Array Value)[i]? =some ((fun j=>Value.int .i64 (rw0 m x j)) (m*1+i)):=by
 intro i hi;have h0:i=0:=by omega
 subst h0;show some (Value.int .i64 0)=some (Value.int .i64 (if m*1+0<m then x (m*1+0) else 0));rw[if_neg (by omega)]
theorem push_keep {lo hi n c:Nat} {f:Nat->Value} {D:Array Value} (ho:Own z lo hi 3 1 A n c f) (hg:z.grownBy z' (Value.slice A n c).ownBlock) (h:z.heap[X]? =some (.cells D 26 (0,0))):z'.heap[X]? =some (.cells D 26 (0,0)):=by
 refine(hg.block X (Array.getElem?_eq_some_iff.1 h).1 ?_).trans h;intro heq;rcases ho with ⟨rfl,_⟩|⟨g,cur,rfl,_,_,k4,_⟩
 ·simp[Value.ownBlock] at heq
 ·simp[Value.ownBlock] at heq;rw[<-heq] at k4;rw[k4] at h;simp only[Option.some.injEq,Obj.cells.injEq] at h;exact absurd h.2.1 (by decide)
theorem hp_up {k:Nat} {a:Obj} (h:z.heap[k]? =some a) (o:Obj):(z.alloc o).heap[k]? =some a:=(Below.heap_alloc z o k (Array.getElem?_eq_some_iff.1 h).1).trans h
theorem hpA (W:World) (a:Obj):(W.alloc a).heap[W.heap.size]? =some a:=heap_alloc_new W a
theorem hpB (W:World) (a b:Obj):((W.alloc a).alloc b).heap[W.heap.size]? =some a/\((W.alloc a).alloc b).heap[W.heap.size+1]? =some b:=by
 have h1:=heap_alloc_new (W.alloc a) b;have he:(W.alloc a).heap.size=W.heap.size+1:=by simp
 rw[he] at h1;exact⟨hp_up (hpA W a) b,h1⟩
theorem hpC (W:World) (a b c:Obj):(((W.alloc a).alloc b).alloc c).heap[W.heap.size]? =some a/\(((W.alloc a).alloc b).alloc c).heap[W.heap.size+1]? =some b/\(((W.alloc a).alloc b).alloc c).heap[W.heap.size+2]? =some c:=by
 have h1:=heap_alloc_new ((W.alloc a).alloc b) c;have he:((W.alloc a).alloc b).heap.size=W.heap.size+2:=by simp
 rw[he] at h1;exact⟨hp_up (hpB W a b).1 c,hp_up (hpB W a b).2 c,h1⟩
theorem own_empty {g lo:Nat} (h:z.heap[g]? =some (.cells #[] 3 (0,0))) (hl:lo<=g):Own z lo (g+1) 3 1 (some ⟨g,0,none⟩) 0 0 (fun _=> .int .i64 0):=
 .inr ⟨g,#[],rfl,hl,Nat.lt_succ_self _,h,nr_,by unfold maxLen;omega,rfl,fun j hj=>absurd hj (by omega)⟩
end
end Go.Proofs.YtfabbohijhjpcaaGreatDoor
