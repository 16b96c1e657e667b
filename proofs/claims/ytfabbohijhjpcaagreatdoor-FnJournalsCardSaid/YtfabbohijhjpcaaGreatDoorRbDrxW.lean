/- Lemmas. -/
import Derived.Test.YtfabbohijhjpcaaGreatDoorRbDrwH
import Derived.Laws.BytesArg
/-
-/
namespace Go.Proofs.YtfabbohijhjpcaaGreatDoor
open Go.RowKit
structure TG (w W:World) (s1:Int) (B1:Option Addr) (m1 d1:Nat) (x1:Nat->Int) (s2:Int) (B2:Option Addr) (m2 d2:Nat) (x2:Nat->Int):Prop where
 h1:1<=m1/\m1<=7
 h2:1<=m2/\m2<=7
 o1:Own W w.heap.size W.heap.size 3 1 B1 m1 d1 (fun j=> .int .i64 (x1 j))
 o2:Own W w.heap.size W.heap.size 3 1 B2 m2 d2 (fun j=> .int .i64 (x2 j))
 b:Below w.heap.size w W
section
variable {w V W U W':World} {s1 s2:Int} {B1 B2:Option Addr} {m1 m2 d1 d2:Nat} {x1 x2:Nat->Int} {q nb cb:Nat} {A:Option Addr}
theorem TG.fin (h:TG V W s1 B1 m1 d1 x1 s2 B2 m2 d2 x2) (hV:Below w.heap.size w V) (hs:V.heap.size=w.heap.size+2) (hU:Below W.heap.size W U) (F:Fr w.heap.size (w.heap.size+2) U W'):TG w W' s1 B1 m1 d1 x1 s2 B2 m2 d2 x2:=by
 have h1:=h.b.size;have h2:=hU.size;have h3:=F.size;exact⟨h.h1,h.h2,((h.o1.keepB hU nr_).keep F (.inr (by omega))).mono (by omega) (by omega),((h.o2.keepB hU nr_).keep F (.inr (by omega))).mono (by omega) (by omega),((hV.trans (h.b.mono (by omega))).trans (hU.mono (by omega))).trans (F.below nr_ (by omega))⟩
theorem TG.of {e:Ending} {w1:World} (h:pgQ w1 q A nb cb e W) (hb:Below w.heap.size w w1) (hq:w.heap.size<=q) (_:q<w1.heap.size): ∃s1 B1 m1 d1 x1 s2 B2 m2 d2 x2,e=.returned (.tuple #[.agg #[.int .i64 s1,.slice B1 m1 d1],.agg #[.int .i64 s2,.slice B2 m2 d2]])/\TG w W s1 B1 m1 d1 x1 s2 B2 m2 d2 x2:=by
 obtain⟨s1,B1,m1,d1,x1,s2,B2,m2,d2,x2,he,h1,h2,o1,o2,hd⟩:=h;have hz:=hb.size;exact⟨s1,B1,m1,d1,x1,s2,B2,m2,d2,x2,he,h1,h2,o1.mono hz nr_,o2.mono hz nr_,hb.trans (hd.fr.below hq hz)⟩
end
section
variable {w:World} {n c:Nat} {A:Option Addr}
end
set_option maxHeartbeats 6400000
section
variable {w:World} {n c:Nat} {A:Option Addr}
set_option maxRecDepth 100000 in
theorem l30Both_s (hb:By w w.heap.size A n c) (hn:n<=1048576):
 Calls Tryz.prog 57 #[.slice A n c] w fun e w'=> ∃(s1:Int) (B1:Option Addr) (m1 d1:Nat) (x1:Nat->Int) (t:ByteArray),e=.returned (.tuple #[.agg #[.int .i64 s1,.slice B1 m1 d1],.string t])/\SG w w' B1 m1 d1 x1:=by
 obtain⟨W,hW⟩: ∃W,W=(w.alloc (Obj.cells #[.int .i64 0,.slice none 0 0] 26)):=⟨_,rfl⟩;have HB:Hid (Below w.heap.size w W):=by rw[hW];exact br_.alloc nr_ _
 have hlW:W.heap.size=w.heap.size+1:=by rw[hW];simp
 have HR0:Hid (GC W (w.heap.size) 0 none 0 0):=by rw[hW];constructor<;>simp[go_sem]
 have HW:=hh_ hW;have KB:=hh_ (l1New_s (hb.keep HB (by omega)) hn:Calls Tryz.prog 33 #[.slice A n c] W _);clear hW hb;go_enter Tryz.func57,Tryz.ntmps57;go_wp2_with fail
 rw[<-HW.out];clear HW;refine KB.mono ?_;rintro e w1 ⟨q,rfl,hq,hc,hb⟩;replace HR0:=hh_ (HR0.keep hb);have hl1:=hb.size;replace HB:=hh_ (HB.trans (hb.mono (by omega)));have HC:=hh_ hc;clear hb KB hc;have hql:=HC.lt;have KB:=hh_ (l29Name_s HC);go_wp2_with fail
 refine KB.mono ?_;rintro e w4 ⟨t,rfl,hd⟩;replace HR0:=hh_ (HR0.keepF hd.fr (.inl (by omega)));have hl4:=hd.fr.size;replace HB:=hh_ (HB.trans (hd.fr.below (by omega) (by omega)));replace HC:=hh_ hd.cu;clear hd KB;have KB:=hh_ (l30Small_s HC);go_wp2_with fail
 refine KB.mono ?_;rintro e w2 ⟨s1,B1,m1,d1,x1,rfl,h1m1,h7m1,ho,hd⟩;replace HR0:=hh_ (HR0.keepF hd.fr (.inl (by omega)));have hlw2:=hd.fr.size;replace HB:=hh_ (HB.trans (hd.fr.below (by omega) (by omega)));replace HC:=hh_ hd.cu;have HO1:=hh_ ho;clear hd KB ho;have r0c0:=HR0.c0;have r0c1:=HR0.c1;have r0f0:=HR0.f0;have r0f1:=HR0.f1;go_wp2;exact bodyPost_ret (v:=.tuple #[.agg #[.int .i64 s1,.slice B1 m1 d1],.string t]) (by simp[results,Tryz.results57,go_sem, *]) rfl ⟨s1,B1,m1,d1,x1,t,rfl,SG.fin HB (fr2 w2 w.heap.size _ _) h7m1 HO1.out (by omega) nr_⟩
set_option maxRecDepth 100000 in
theorem DrawSafeEdits_s (hb:By w w.heap.size A n c) (hn:n<=1048576):
 Calls Tryz.prog 20 #[.slice A n c] w fun e w'=> ∃(s1:Int) (B1:Option Addr) (m1 d1:Nat) (x1:Nat->Int) (t:ByteArray),e=.returned (.tuple #[.agg #[.int .i64 s1,.slice B1 m1 d1],.string t])/\SG w w' B1 m1 d1 x1:=by
 obtain⟨W,hW⟩: ∃W,W=(w.alloc (Obj.cells #[.int .i64 0,.slice none 0 0] 26)):=⟨_,rfl⟩;have HB:Hid (Below w.heap.size w W):=by rw[hW];exact br_.alloc nr_ _
 have hlW:W.heap.size=w.heap.size+1:=by rw[hW];simp
 have HR0:Hid (GC W (w.heap.size) 0 none 0 0):=by rw[hW];constructor<;>simp[go_sem]
 have HW:=hh_ hW;have KB:=hh_ (l30Both_s (hb.keep HB (by omega)) hn:Calls Tryz.prog 57 #[.slice A n c] W _);clear hW hb;go_enter Tryz.func20,Tryz.ntmps20;go_wp2_with fail
 rw[<-HW.out];clear HW;refine KB.mono ?_;rintro e w2 ⟨s1,B1,m1,d1,x1,t,rfl,hS⟩;have hb:=hS.b;replace HR0:=hh_ (HR0.keep hb);have hl1:=hb.size;replace HB:=hh_ (HB.trans (hb.mono (by omega)));have h7m1:=hS.h7;have HO1:=hh_ hS.o1;have hlt:w.heap.size<w2.heap.size:=by omega
 have j1:(w.heap.size=w2.heap.size)=False:=by simp;omega
 have j2:(w2.heap.size=w.heap.size)=False:=by simp;omega
 clear hb KB hS;have r0c0:=HR0.c0;have r0c1:=HR0.c1;have r0f0:=HR0.f0;have r0f1:=HR0.f1;go_wp2;exact bodyPost_ret (v:=.tuple #[.agg #[.int .i64 s1,.slice B1 m1 d1],.string t]) (by simp[results,Tryz.results20,go_sem, *]) rfl ⟨s1,B1,m1,d1,x1,t,rfl,(SG.fin HB (fr2 w2 w.heap.size _ _) h7m1 HO1.out (by omega) nr_).alloc _⟩
set_option maxRecDepth 100000 in
theorem DrawEditsBetween_s (hb:By w w.heap.size A n c) (hn:n<=1048576):
 Calls Tryz.prog 11 #[.slice A n c] w fun e w'=> ∃s1 B1 m1 d1 x1 s2 B2 m2 d2 x2,e=.returned (.tuple #[.agg #[.int .i64 s1,.slice B1 m1 d1],.agg #[.int .i64 s2,.slice B2 m2 d2]])/\TG w w' s1 B1 m1 d1 x1 s2 B2 m2 d2 x2:=by
 obtain⟨W,hW⟩: ∃W,W=((w.alloc (Obj.cells #[.int .i64 0,.slice none 0 0] 26)).alloc (Obj.cells #[.int .i64 0,.slice none 0 0] 26)):=⟨_,rfl⟩;have HB:Hid (Below w.heap.size w W):=by rw[hW];exact(br_.alloc nr_ _).alloc (by simp) _
 have hlW:W.heap.size=w.heap.size+2:=by rw[hW];simp
 have HR0:Hid (GC W w.heap.size 0 none 0 0):=by rw[hW];exact(GC.new _ _ _ _ _).keep (br_.alloc nr_ _)
 have HR1:Hid (GC W (w.heap.size+1) 0 none 0 0):=by rw[hW];constructor<;>simp[go_sem]
 have HW:=hh_ hW;have KB:=hh_ (l1New_s (hb.keep HB (by omega)) hn:Calls Tryz.prog 33 #[.slice A n c] W _);clear hW hb;go_enter Tryz.func11,Tryz.ntmps11;go_wp2_with fail
 rw[<-HW.out];clear HW;refine KB.mono ?_;rintro e w2 ⟨q,rfl,hq,hc,hb⟩;replace HR0:=hh_ (HR0.keep hb);replace HR1:=hh_ (HR1.keep hb);have hl1:=hb.size;have HB1:=hh_ hb;have HC:=hh_ hc;clear hb KB hc;have hql:=HC.lt;have KB:=hh_ (l31Pair_s HC);go_wp2_with fail
 refine KB.mono ?_;intro e w3 hp;obtain⟨s1,B1,m1,d1,x1,s2,B2,m2,d2,x2,rfl,hT⟩:=TG.of hp HB1 hq (by omega);obtain⟨_,_,_,_,_,_,_,_,_,_,_,_,_,_,_,hd⟩:=hp;replace HR0:=hh_ (HR0.keepF hd.fr (.inl (by omega)));replace HR1:=hh_ (HR1.keepF hd.fr (.inl (by omega)));have hl3:=hd.fr.size;have HT:=hh_ hT;clear hd KB hT;obtain⟨U,hU⟩: ∃U,U=((w3.alloc (Obj.cells #[.int .i64 s1,.slice B1 m1 d1] 26)).alloc (Obj.cells #[.int .i64 s2,.slice B2 m2 d2] 26)):=⟨_,rfl⟩;have hbU:Below w3.heap.size w3 U:=by rw[hU];exact(br_.alloc nr_ _).alloc (by simp) _
 have hlU:U.heap.size=w3.heap.size+2:=by rw[hU];simp
 have hg1:GC U w3.heap.size s1 B1 m1 d1:=by rw[hU];exact(GC.new _ _ _ _ _).keep (br_.alloc nr_ _)
 have hg2:GC U (w3.heap.size+1) s2 B2 m2 d2:=by rw[hU];constructor<;>simp[go_sem]
 replace HR0:=hh_ (HR0.keep hbU);replace HR1:=hh_ (HR1.keep hbU);have HF:=hh_ (fun (W':World) (F:Fr w.heap.size (w.heap.size+2) U W')=>HT.fin HB hlW hbU F);have HU:=hh_ hU;have e0:=hg1.c0;have e1:=hg1.c1;have e2:=hg2.c0;have e3:=hg2.c1;have r0:=HR0.c0;have r1:=HR0.c1;have r2:=HR0.f0;have r3:=HR0.f1;have u0:=HR1.c0;have u1:=HR1.c1;have u2:=HR1.f0;have u3:=HR1.f1;clear hU hbU hg1 hg2;go_wp2_with fail
 rw[<-HU.out];clear HU;go_region
 all_goals go_wp2
 all_goals exact bodyPost_ret (v:=.tuple #[.agg #[.int .i64 s1,.slice B1 m1 d1],.agg #[.int .i64 s2,.slice B2 m2 d2]]) (by simp[results,Tryz.results11,go_sem, *]) rfl ⟨s1,B1,m1,d1,x1,s2,B2,m2,d2,x2,rfl,HF.out _ ((fr4 _ _ _ _ _ _).drewN _)⟩
end
set_option maxHeartbeats 6400000
theorem info_u8:(Tryz.prog.info? 5).map (fun i=>(i.zero,i.size,i.bytes))=some (some (.int .u8 0),1,1):=by kernel_rfl
def byL (L:List Int) (j:Nat):Value:=.int .u8 (L.getD j 0)
theorem wpList_pushU (W:World) {ops:Array Oper} {rest:List Oper} {o:Oper} {a:Act} {Q:Exit->Act->World->Prop} (hgd:o.guard=none) (s y:Operand)
 (ho:o.op=.call {callee:=.builtin .append,args:= #[s,y],argTypes:= #[22,22]})
 (lo hi:Nat) (A:Option Addr) (n c:Nat) (L:List Int) (hL:L.length=n) (h:Own W lo hi 5 1 A n c (byL L)) (hlo:lo<=W.heap.size) (k:Int) (hs:a.eval s=.slice A n c) (cx H:Nat) (hH:W.heap.size=H) (hy:a.eval y=.slice (some ⟨H,0,none⟩) 1 cx)
 (hn:n<=1073741824)
 (hK: ∀g cap w',Own w' lo w'.heap.size 5 1 (some ⟨g,0,none⟩) (n+1) cap (byL (L++ [k]))->Below lo W w'->wpList Tryz.prog ops Q rest (a.put o.dst (.slice (some ⟨g,0,none⟩) (n+1) cap)) w'):
 wpList Tryz.prog ops Q (o::rest) a (W.alloc (Obj.cells #[.int .u8 k] 5)):=by
 subst hH;have ha:=(h.congr (y:=byL (L++ [k])) (fun j hj=>by unfold byL;simp[List.getD,List.getElem?_append_left (show j<L.length by omega)])).alloc (Obj.cells #[.int .u8 k] 5);refine wpList_push (W.alloc (Obj.cells #[.int .u8 k] 5)) hgd s y 22 ho 5 _ 1 1 Tryz.underlying22 info_u8 rfl (by omega) lo hi A n c _ hs
  ha (by simp;omega) W.heap.size #[.int .u8 k] 5 (0,0) cx (heap_alloc_new W _) hy rfl ?_ (by simp[Value.oneCell']) hn (by omega) ?_
 ·intro i hi;obtain rfl:i=0:=by omega
  unfold byL;subst hL;simp[List.getD]
 ·intro g cap w' hp;exact hK g cap w' hp.own ((br_.alloc hlo _).trans hp.below)
section
variable {w wr z:World} {q nb cb n' c':Nat} {A A':Option Addr} {L:List Int}
structure DU (w wr:World) (q:Nat) (A:Option Addr) (nb cb:Nat) (A':Option Addr) (n' c':Nat) (L:List Int):Prop where
 cu:Cu wr q A nb cb
 fr:Fr q (q+1) w wr
 l1:q<w.heap.size
 o:Own wr w.heap.size wr.heap.size 5 1 A' n' c' (byL L)
theorem DU.draw (h:DU w wr q A nb cb A' n' c' L) (hd:Dr wr q A nb cb z):DU w z q A nb cb A' n' c' L:=by
 have h1:=h.l1;exact⟨hd.cu,h.fr.trans hd.fr,h1,(h.o.keep hd.fr (.inr (by omega))).mono nr_ hd.fr.size⟩
theorem DU.grow {A2:Option Addr} {n2 c2:Nat} {L2:List Int} (h:DU w wr q A nb cb A' n' c' L) (hb:Below w.heap.size wr z) (ho:Own z w.heap.size z.heap.size 5 1 A2 n2 c2 (byL L2)):DU w z q A nb cb A2 n2 c2 L2:=
 ⟨h.cu.keepB hb h.l1,h.fr.pastB hb nr_,h.l1,ho⟩
end
section
variable {w:World} {q nb cb:Nat} {A:Option Addr}
set_option maxRecDepth 100000 in
theorem l1Text_s (hc:Cu w q A nb cb):Calls Tryz.prog 123 #[.pointer (some ⟨q,0,none⟩),.int .i64 3] w fun e w'=> ∃t:ByteArray,e=.returned (.string t)/\t.size<=3/\Dr w q A nb cb w':=by
 obtain⟨W,hW⟩: ∃W,W=w.alloc (Obj.cells #[] 5):=⟨_,rfl⟩;have HU:Hid (DU w W q A nb cb (some ⟨w.heap.size,0,none⟩) 0 0 []):=by
  have hb:Below w.heap.size w W:=by rw[hW];exact br_.alloc nr_ _
  refine⟨hc.keep hb,Fr.of_below hb,hc.lt,?_⟩;rw[hW];exact .inr ⟨w.heap.size,#[],rfl,nr_,by simp,heap_alloc_new w _,nr_,by unfold maxLen;omega,rfl,fun j hj=>absurd hj (by omega)⟩
 have HW:=hh_ hW;have KB:=hh_ (l1Below_s (k:=4) HU.cu (by omega) (by omega));clear hW hc;go_enter Tryz.func123,Tryz.ntmps123;go_wp2_with fail
 rw[<-HW.out];clear HW;refine KB.mono ?_;rintro e w1 ⟨s,rfl,hs,hd⟩;replace HU:=hh_ (HU.draw hd);clear hd KB;have KB:=hh_ (l1Below_s (k:=4) HU.cu (by omega) (by omega));go_wp2_with fail
 refine KB.mono ?_;rintro e w2 ⟨n,rfl,hn,hd⟩;replace HU:=hh_ (HU.draw hd);clear hd KB;go_wp2;go_loopw [5,7] (fun l i wr=> ∃(k n' g c':Nat) (L:List Int),Hid (L.length=n')/\n'+k<=3/\i=.int .i64 k/\l=.slice (some ⟨g,0,none⟩) n' c'/\Hid (DU w wr q A nb cb (some ⟨g,0,none⟩) n' c' L)) (fun _ i _=>(intOf i).toNat);case atStart=>exact⟨n,0,_,0,[],rfl,by omega,rfl,rfl,HU⟩
 case round=>
  clear HU hn;obtain⟨k,n',g,c',L,HL,hk,rfl,rfl,HU⟩:=hrel;by_cases hk0:0<k
  ·obtain⟨j,rfl⟩: ∃j,k=j+1:=⟨k-1,by omega⟩;have i1:(0:Int)<((j+1:Nat):Int):=by omega
   have KB:=hh_ (l1Byte_s HU.cu);go_wp2_with fail
   refine KB.mono ?_;rintro e w3 ⟨b,rfl,hb,hd⟩;replace HU:=hh_ (HU.draw hd);clear hd KB;have HO:=hh_ HU.o;have hlo:w.heap.size<=w3.heap.size:=HU.fr.size;have hn3:n'<=1073741824:=by omega
   have hn4:n'+1+j<=3:=by omega
   by_cases h1:s=1
   ·have i2:((s:Int)==1)=true:=by simp;omega
    have i3:((s:Int)==2)=false:=by rw[beq_eq_false_iff_ne];omega
    clear h1 hs;go_wp2_with (first|(at_builtin;(refine wpList_pushU _ (by rfl) _ _ (by rfl) w.heap.size w3.heap.size _ n' c' L HL.out HO.out hlo _ (by rfl) 1 w3.heap.size rfl (by rfl) hn3 ?_;intro g6 c6 w6 hO6 hb6)))
    have HU6:=hh_ (HU.grow hb6 hO6);clear hO6 hb6 HO;go_wp2;go_roundw;case rel=>exact⟨j,n'+1,g6,c6,_,by show _=_;rw[List.length_append,HL.out];rfl,hn4,by go_num,rfl,HU6⟩
    case measure=>simp[intOf]<;>omega
   ·have i2:((s:Int)==1)=false:=by rw[beq_eq_false_iff_ne];omega
    by_cases h2:s=2
    ·have i3:((s:Int)==2)=true:=by simp;omega
     clear h1 h2 hs;go_wp2_with (first|(at_builtin;(refine wpList_pushU _ (by rfl) _ _ (by rfl) w.heap.size w3.heap.size _ n' c' L HL.out HO.out hlo _ (by rfl) 1 w3.heap.size rfl (by rfl) hn3 ?_;intro g6 c6 w6 hO6 hb6)))
     have HU6:=hh_ (HU.grow hb6 hO6);clear hO6 hb6 HO;go_wp2;go_roundw;case rel=>exact⟨j,n'+1,g6,c6,_,by show _=_;rw[List.length_append,HL.out];rfl,hn4,by go_num,rfl,HU6⟩
     case measure=>simp[intOf]<;>omega
    ·have i3:((s:Int)==2)=false:=by rw[beq_eq_false_iff_ne];omega
     clear h1 h2 hs;go_wp2_with (first|(at_builtin;(refine wpList_pushU _ (by rfl) _ _ (by rfl) w.heap.size w3.heap.size _ n' c' L HL.out HO.out hlo _ (by rfl) 1 w3.heap.size rfl (by rfl) hn3 ?_;intro g6 c6 w6 hO6 hb6)))
     have HU6:=hh_ (HU.grow hb6 hO6);clear hO6 hb6 HO;go_wp2;go_roundw;case rel=>exact⟨j,n'+1,g6,c6,_,by show _=_;rw[List.length_append,HL.out];rfl,hn4,by go_num,rfl,HU6⟩
     case measure=>simp[intOf]<;>omega
  ·obtain rfl:k=0:=by omega
   have hcv:Hid (∀dst,Tryz.prog.underlying dst=some .string->(convert 22 dst (.slice (some ⟨g,0,none⟩) n' c')).run Tryz.prog wr=.ok (.string (strOfNums L)) wr):=by
    by_cases h0:0<n'
    ·obtain⟨g5,e5,_,_,_,h5,_⟩:=HU.o.at_ (by omega);cases e5
     exact run_convert_bytes_arg wr 22 5 Tryz.underlying22 Tryz.underlying5 g 0 n' c' L HL.out (fun i hi=>by rw[Nat.zero_add];exact h5 i (by omega))
    ·exact run_convert_bytes_arg wr 22 5 Tryz.underlying22 Tryz.underlying5 g 0 n' c' L HL.out (fun i hi=>absurd hi (by omega))
   have hcs:=hcv.out 9 Tryz.underlying9;have HF:Hid (∃t:ByteArray,Ending.returned (.string (strOfNums L))=.returned (.string t)/\t.size<=3/\Dr w q A nb cb wr):=⟨_,rfl,by rw[strOfNums_size,HL.out];omega,HU.cu,HU.fr⟩;obtain⟨t,ht⟩: ∃t,t=strOfNums L:=⟨_,rfl⟩;rw[<-ht] at hcs HF;clear hcv ht;go_wp2;go_ret;exact HF.out
end
set_option maxHeartbeats 6400000
theorem bl_drewN (z:World) (k:Nat):Below z.heap.size z (z.drewN k):=⟨(Below.refl z.heap.size z).os,(Below.refl z.heap.size z).tape,(Below.refl z.heap.size z).output,nr_,(Below.refl z.heap.size z).block⟩
theorem spoil_a {s:ByteArray} {k:Nat}:(s.extract 0 k++s.extract (k+1) s.size).size<=s.size+3:=by
 rw[ByteArray.size_append,ByteArray.size_extract,ByteArray.size_extract];omega
theorem spoil_b {s:ByteArray} {k:Nat} {x:Int}:(s.extract 0 k++strOfNums [x]++s.extract k s.size).size<=s.size+3:=by
 rw[ByteArray.size_append,ByteArray.size_append,ByteArray.size_extract,ByteArray.size_extract,strOfNums_size];simp;omega
theorem spoil_c {s:ByteArray} {k:Nat} {x:Int}:(s.extract 0 k++strOfNums [x]++s.extract (k+1) s.size).size<=s.size+3:=by
 rw[ByteArray.size_append,ByteArray.size_append,ByteArray.size_extract,ByteArray.size_extract,strOfNums_size];simp;omega
section
variable {w:World} {q nb cb:Nat} {A:Option Addr}
theorem one_byte (z:World) (x:Int):(convert 22 9 (.slice (some ⟨z.heap.size,0,none⟩) 1 1)).run Tryz.prog (z.alloc (Obj.cells #[.int .u8 x] 5))=.ok (.string (strOfNums [x])) (z.alloc (Obj.cells #[.int .u8 x] 5)):=
 run_convert_bytes_arg (z.alloc (Obj.cells #[.int .u8 x] 5)) 22 5 Tryz.underlying22 Tryz.underlying5 z.heap.size 0 1 1 [x] rfl (fun i hi=>by
  have hi0:i=0:=Nat.lt_one_iff.1 hi
  subst hi0
  simp[go_sem]) 9 Tryz.underlying9
set_option maxRecDepth 100000 in
theorem l1Spoil_s (s:ByteArray) (hc:Cu w q A nb cb) (hs:s.size<=256):Calls Tryz.prog 65 #[.pointer (some ⟨q,0,none⟩),.string s] w fun e w'=> ∃t:ByteArray,e=.returned (.string t)/\t.size<=s.size+3/\Dr w q A nb cb w':=by
 by_cases h0:s.size=0
 ·have KT:=hh_ (l1Text_s hc);have i0:((s.size:Int)==0)=true:=by rw[h0];rfl
  clear hc;go_enter Tryz.func65,Tryz.ntmps65;go_wp2_with fail
  refine KT.mono ?_;rintro e w1 ⟨t,rfl,ht,hd⟩;have HF:Hid (∃t':ByteArray,Ending.returned (.string t)=.returned (.string t')/\t'.size<=s.size+3/\Dr w q A nb cb w1):=⟨t,rfl,by omega,hd⟩;clear hd ht;go_wp2;go_ret;exact HF.out
 have i0:((s.size:Int)==0)=false:=by rw[beq_eq_false_iff_ne];omega
 have KB:=hh_ (l1Below_s (k:=s.size) hc (by omega) hs);clear hc;go_enter Tryz.func65,Tryz.ntmps65;go_wp2_with fail
 refine KB.mono ?_;rintro e w1 ⟨k,rfl,hk,hd⟩;have HD:=hh_ hd;clear hd KB;have KB:=hh_ (l1Below_s (k:=4) HD.cu (by omega) (by omega));go_wp2_with fail
 refine KB.mono ?_;rintro e w2 ⟨y,rfl,hy,hd⟩;replace HD:=hh_ (HD.trans hd);clear hd KB;have n0:(0:Int)<=k:=by omega
 have n1:(k:Int)<=s.size:=by omega
 have n2:(0:Int)<=k+1:=by omega
 have n3:(k:Int)+1<=(s.size:Int):=by omega
 have n4:(k:Int)<s.size:=by omega
 by_cases y0:y=0
 ·have j0:((y:Int)==0)=true:=by simp;omega
  clear y0 hy;go_wp2;go_quiet (fail)
  have HZ:=hh_ (HD.trans (Dr.of HD.cu (bl_drewN w2 nq)));go_wp2;go_ret;exact⟨_,rfl,spoil_a,HZ.out⟩
 have j0:((y:Int)==0)=false:=by rw[beq_eq_false_iff_ne];omega
 by_cases y1:y=1
 ·have j1:((y:Int)==1)=true:=by simp;omega
  clear y0 y1 hy;go_wp2;have HC2:Hid (Cu w2.drew q A nb cb):=HD.cu.keep br_.drew;have HQ:Hid (Fr q (q+1) w w2.drew):=HD.fr.trans (Fr.of_below (Below.refl w2.heap.size w2).drew);have KB:=hh_ (l1Byte_s HC2);have hst: ∀x:Int,(strOfNums [x]).size=1:=fun x=>strOfNums_size [x]
  have z1: ¬(9223372036854775807<min k s.size+1):=by omega
  have z2: ¬(9223372036854775807<min k s.size+1+(s.size-k)):=by omega
  have hS1:w2.heap.size<=w2.drew.heap.size:=nr_;refine wp_region_held_drew (S:=fun z=>True) (by kernel_rfl) trivial (fun hHeld=> ?_);refine pcY 0 ?_;iterate 3 (refine ptY ?_)
  refine pcY 9 ?_;iterate 2 (refine ptY ?_)
  refine w1H 4 (fun K hK=> ?_);go_simp;go_at_call 122;refine(KB.out).mono ?_
  rintro e w5 ⟨b,rfl,hb,hd⟩;have hcv:=one_byte w5;refine hK.out _ _ trivial (fun hHeld=> ?_);clear hK K;try simp only[Act.put,sl0,sl1,sl2]
  refine ptY ?_;refine w1H 6 (fun K hK=> ?_);go_simp;refine hK.out _ _ trivial (fun hHeld=> ?_);clear hK K;try simp only[Act.put,sl0,sl1,sl2]
  refine w1H 7 (fun K hK=> ?_);go_simp;refine hK.out _ _ trivial (fun hHeld=> ?_);clear hK K;try simp only[Act.put,sl0,sl1,sl2]
  refine ptY ?_;refine pcY 12 ?_;refine ptY ?_;refine wpAnyH_done (by kernel_rfl) ?_ _;have HZ:Hid (∀o:Obj,Dr w q A nb cb (w5.alloc o)):=fun o=>((HD.trans (Dr.of HD.cu (Below.refl w2.heap.size w2).drew)).trans hd).trans (Dr.of hd.cu ((Below.refl w5.heap.size w5).alloc nr_ o))
  go_wp2;go_ret;exact⟨_,rfl,spoil_b,HZ.out _⟩
 have j1:((y:Int)==1)=false:=by rw[beq_eq_false_iff_ne];omega
 by_cases y2:y=2
 ·have j2:((y:Int)==2)=true:=by simp;omega
  clear y0 y1 y2 hy;go_wp2;go_ret;exact⟨_,rfl,by rw[ByteArray.size_extract];omega,HD.out⟩
 have j2:((y:Int)==2)=false:=by rw[beq_eq_false_iff_ne];omega
 clear y0 y1 y2 hy;go_wp2;have HC2:Hid (Cu w2.drew q A nb cb):=HD.cu.keep br_.drew;have HQ:Hid (Fr q (q+1) w w2.drew):=HD.fr.trans (Fr.of_below (Below.refl w2.heap.size w2).drew);have KB:Hid (Calls Tryz.prog 64 #[.pointer (some ⟨q,0,none⟩),.int .i64 255] w2.drew fun e w'=> ∃v:Nat,e=.returned (.int .i64 v)/\v<255/\Dr w2.drew q A nb cb w'):=l1Below_s (k:=255) HC2 (by omega) (by omega);have hsl: ∀z:World,(Instr.slice 9 (.string s) (some (.int .i64 ((k:Int)+1))) none none).run Tryz.prog z=.ok (.string (s.extract (k+1) s.size)) z:=fun z=>by
  rw[run_slice_string_l z 9 s Tryz.underlying9 .i64 ((k:Int)+1) (by omega) (by omega)];rw[show ((k:Int)+1).toNat=k+1 by omega]
 have n7:wrap64 ((k:Int)+1)=(k:Int)+1:=Go.IntWalk.wrap64_in _ (by omega);have n8:IntKind.i64.wrap ((k:Int)+1)=(k:Int)+1:=Go.IntWalk.i64_in _ (by omega);have n9:((k:Int)+1).toNat=k+1:=by omega
 have hst: ∀x:Int,(strOfNums [x]).size=1:=fun x=>strOfNums_size [x]
 have z1: ¬(9223372036854775807<min k s.size+1):=by omega
 have z2: ¬(9223372036854775807<min k s.size+1+(s.size-(k+1))):=by omega
 have hS1:w2.heap.size<=w2.drew.heap.size:=nr_;refine wp_region_held_drew (S:=fun z=>True) (by kernel_rfl) trivial (fun hHeld=> ?_);refine pcY 0 ?_;iterate 7 (refine ptY ?_)
 refine pcY 15 ?_;iterate 3 (refine ptY ?_)
 refine w1H 8 (fun K hK=> ?_);go_simp;go_at_call 64;refine(KB.out).mono ?_
 rintro e w5 ⟨b,rfl,hb,hd⟩;have s1:IntKind.i64.wrap (1+(b:Int))=1+(b:Int):=Go.IntWalk.i64_in _ (by omega);have hcv:=one_byte w5;refine hK.out _ _ trivial (fun hHeld=> ?_);clear hK K;try simp only[Act.put,sl0,sl1,sl2]
 iterate 3 (refine ptY ?_)
 refine w1H 12 (fun K hK=> ?_);go_simp;refine hK.out _ _ trivial (fun hHeld=> ?_);clear hK K;try simp only[Act.put,sl0,sl1,sl2]
 refine w1H 13 (fun K hK=> ?_);go_simp;refine hK.out _ _ trivial (fun hHeld=> ?_);clear hK K;try simp only[Act.put,sl0,sl1,sl2]
 refine ptY ?_;refine pcY 19 ?_;refine ptY ?_;refine wpAnyH_done (by kernel_rfl) ?_ _;all_goals
  have HZ:Hid (∀o:Obj,Dr w q A nb cb (w5.alloc o)):=fun o=>((HD.trans (Dr.of HD.cu (Below.refl w2.heap.size w2).drew)).trans hd).trans (Dr.of hd.cu ((Below.refl w5.heap.size w5).alloc nr_ o))
  go_wp2;go_ret;exact⟨_,rfl,spoil_c,HZ.out _⟩
end
set_option maxHeartbeats 6400000
section
variable {w:World} {n c:Nat} {A:Option Addr}
set_option maxRecDepth 100000 in
theorem DrawParseEdits_s (hb:By w w.heap.size A n c) (hn:n<=1048576):
 Calls Tryz.prog 25 #[.slice A n c] w fun e w'=> ∃t:ByteArray,e=.returned (.string t)/\t.size<=60/\Below w.heap.size w w':=by
 have KB:=hh_ (l1New_s hb hn:Calls Tryz.prog 33 #[.slice A n c] w _);clear hb;go_enter Tryz.func25,Tryz.ntmps25;go_wp2_with fail
 refine KB.mono ?_;rintro e w1 ⟨q,rfl,hq,hc,hb⟩;have HB:=hh_ hb;have HC:=hh_ hc;have hql:=hc.lt;have hl1:=hb.size;clear hb hc KB;have KB:=hh_ (l2Any_s HC);go_wp2_with fail
 refine KB.mono ?_;rintro e w2 ⟨s1,B1,m1,d1,x1,rfl,_,h7,ho,hd⟩;have hl2:=hd.fr.size;replace HB:=hh_ (HB.trans (hd.fr.below (by omega) (by omega)));replace HC:=hh_ hd.cu;have KE:=hh_ (l32Edits_s (sz:=s1) HC ho (by omega) nr_ (by omega));clear hd KB ho;go_wp2_with fail
 refine KE.mono ?_;rintro e w3 ⟨A3,c3,T,rfl,hT,hoT,hd⟩;have hl3:=hd.fr.size;replace HB:=hh_ (HB.trans (hd.fr.below (by omega) (by omega)));replace HC:=hh_ hd.cu;have KF:=hh_ (FormatEdits_s A3 T.length c3 _ _ _ w3 ⟨Own.rdE hoT⟩ (by omega));have hsz:=fmO_size (n:=T.length) (a:=fun i=>(T.getD i ed0).1) (v:=fun i=>(T.getD i ed0).2.1) (u:=fun i=>(T.getD i ed0).2.2);obtain⟨S,hS⟩: ∃S,S=fmO T.length (fun i=>(T.getD i ed0).1) (fun i=>(T.getD i ed0).2.1) (fun i=>(T.getD i ed0).2.2):=⟨_,rfl⟩;rw[<-hS] at KF hsz;clear hd KE hoT hS;go_wp2_with fail
 refine KF.mono ?_;rintro e w4 ⟨rfl,hb⟩;have hl4:=hb.size;replace HB:=hh_ (HB.trans (hb.mono (by omega)));replace HC:=hh_ (HC.keep hb);clear hb KF;have KB:=hh_ (l1Below_s (k:=4) HC (by omega) (by omega));go_wp2_with fail
 refine KB.mono ?_;rintro e w5 ⟨y,rfl,hy,hd⟩;have hl5:=hd.fr.size;replace HB:=hh_ (HB.trans (hd.fr.below (by omega) (by omega)));replace HC:=hh_ hd.cu;clear hd KB;by_cases y0:y=0
 ·have j0:((y:Int)==0)=true:=by simp;omega
  have KS:=hh_ (l1Spoil_s S HC (by omega));clear y0 hy;go_wp2_with fail
  refine KS.mono ?_;rintro e w6 ⟨t,rfl,ht,hd⟩;have HZ:Hid (∃t':ByteArray,Ending.returned (.string t)=.returned (.string t')/\t'.size<=60/\Below w.heap.size w w6):=⟨t,rfl,by omega,HB.trans (hd.fr.below (by omega) (by omega))⟩;clear hd KS ht;go_wp2;go_ret;exact HZ.out
 have j0:((y:Int)==0)=false:=by rw[beq_eq_false_iff_ne];omega
 by_cases y1:y=1
 ·have j1:((y:Int)==1)=true:=by simp;omega
  obtain⟨W4,hW4⟩: ∃W4,W4=(w5.alloc (Obj.cells #[.string ⟨#[]⟩,.string ⟨#[110,111,110,101]⟩,.string ⟨#[43,48]⟩,.string ⟨#[43,48,56]⟩,.string ⟨#[45,48,49,44]⟩,.string ⟨#[42,48,49]⟩,.string ⟨#[43,48,49,44,44,45,48,49]⟩] 9)):=⟨_,rfl⟩;have hb4:Below w5.heap.size w5 W4:=by rw[hW4];exact br_.alloc nr_ _
  have hl6:w5.heap.size<W4.heap.size:=by rw[hW4];simp
  have hl:LT W4 w5.heap.size 7 (fun t=>t.size<=60):=by
   refine⟨fun j hj=> ?_⟩;rw[hW4];have hj5:j=0\/j=1\/j=2\/j=3\/j=4\/j=5\/j=6:=by omega
   rcases hj5 with rfl|rfl|rfl|rfl|rfl|rfl|rfl
   ·exact⟨⟨#[]⟩,by decide,by simp[go_sem]⟩
   ·exact⟨⟨#[110,111,110,101]⟩,by decide,by simp[go_sem]⟩
   ·exact⟨⟨#[43,48]⟩,by decide,by simp[go_sem]⟩
   ·exact⟨⟨#[43,48,56]⟩,by decide,by simp[go_sem]⟩
   ·exact⟨⟨#[45,48,49,44]⟩,by decide,by simp[go_sem]⟩
   ·exact⟨⟨#[42,48,49]⟩,by decide,by simp[go_sem]⟩
   ·exact⟨⟨#[43,48,49,44,44,45,48,49]⟩,by decide,by simp[go_sem]⟩
  have hq3:q<w5.heap.size:=by omega
  replace HB:=hh_ (HB.trans (hb4.mono (by omega)));replace HC:=hh_ (HC.keep hb4);have KP:=hh_ (l1Pick_s (k:=7) HC hl hq3 hl6 (by omega) (by omega));have HW4:=hh_ hW4;clear hW4 hb4 hl y0 y1 hy;go_wp2_with fail
  rw[<-HW4.out];clear HW4;refine KP.mono ?_;rintro e w6 ⟨t,rfl,ht,hd⟩;have HZ:Hid (∃t':ByteArray,Ending.returned (.string t)=.returned (.string t')/\t'.size<=60/\Below w.heap.size w w6):=⟨t,rfl,ht,HB.trans (hd.fr.below (by omega) (by omega))⟩;clear hd KP ht;go_wp2;go_ret;exact HZ.out
 have j1:((y:Int)==1)=false:=by rw[beq_eq_false_iff_ne];omega
 clear y0 y1 hy;go_wp2;go_ret;exact⟨_,rfl,by omega,HB⟩
end
end Go.Proofs.YtfabbohijhjpcaaGreatDoor
