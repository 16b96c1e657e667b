/- Lemmas. -/
import Derived.Test.YtfabbohijhjpcaaGreatDoorRbDrwM
import Derived.Test.YtfabbohijhjpcaaGreatDoorRbGivS
namespace Go.Proofs.YtfabbohijhjpcaaGreatDoor
open Go.RowKit
set_option maxHeartbeats 12800000
section
variable {w W z z':World} {q nb cb k1 k2 n1 n2 X:Nat} {A A1 A2:Option Addr} {T U:List Nat}
theorem MB.keepF {a b:Nat} (h:MB z X A1 n1 k1 A2 n2 k2) (hf:Fr a b z z') (ho:X<a\/b<=X):MB z' X A1 n1 k1 A2 n2 k2:=⟨frC_ hf h.c0 h.lt ho,frC_ hf h.c1 h.lt ho,frZ_ hf h.f0 h.lt ho,frZ_ hf h.f1 h.lt ho⟩
structure LM (w W z:World) (q:Nat) (A:Option Addr) (nb cb X:Nat) (A1:Option Addr) (k1:Nat) (T:List Nat) (A2:Option Addr) (k2:Nat) (U:List Nat):Prop where
 cu:Cu z q A nb cb
 fr:Fr q (q+1) w z
 l1:q<w.heap.size
 l2:w.heap.size<X
 rb: ∀j,z.cell? ⟨w.heap.size,j,none⟩=W.cell? ⟨w.heap.size,j,none⟩/\z.frozen? ⟨w.heap.size,j,none⟩=W.frozen? ⟨w.heap.size,j,none⟩
 m:MB z (X) A1 T.length k1 A2 U.length k2
 t:TwoN z (X+1) A1 k1 T A2 k2 U
theorem rb_below {K:Nat} (h: ∀j,z.cell? ⟨X,j,none⟩=W.cell? ⟨X,j,none⟩/\z.frozen? ⟨X,j,none⟩=W.frozen? ⟨X,j,none⟩) (hb:Below K z z') (hX:X<K):
 ∀j,z'.cell? ⟨X,j,none⟩=W.cell? ⟨X,j,none⟩/\z'.frozen? ⟨X,j,none⟩=W.frozen? ⟨X,j,none⟩:=fun j=>⟨((bcell hb).1 _ _ hX).trans (h j).1,((bcell hb).2 _ _ hX).trans (h j).2⟩
theorem rb_fr {a b:Nat} (h: ∀j,z.cell? ⟨X,j,none⟩=W.cell? ⟨X,j,none⟩/\z.frozen? ⟨X,j,none⟩=W.frozen? ⟨X,j,none⟩) (hf:Fr a b z z') (hX:X<z.heap.size) (ho:X<a\/b<=X):
 ∀j,z'.cell? ⟨X,j,none⟩=W.cell? ⟨X,j,none⟩/\z'.frozen? ⟨X,j,none⟩=W.frozen? ⟨X,j,none⟩:=fun j=>⟨(hf.cell (p:=⟨X,j,none⟩) hX ho).trans (h j).1,(World.frozen?_of_block (hf.block X hX ho)).trans (h j).2⟩
theorem LM.keep (h:LM w W z q A nb cb X A1 k1 T A2 k2 U) (hb:Below z.heap.size z z'):LM w W z' q A nb cb X A1 k1 T A2 k2 U:=by
 have h1:=h.m.lt;have h3:=h.l2;exact⟨h.cu.keep hb,h.fr.trans (Fr.of_below hb),h.l1,h3,rb_below h.rb hb (by omega),h.m.keep hb,h.t.keep hb⟩
theorem LM.draw (h:LM w W z q A nb cb X A1 k1 T A2 k2 U) (hd:Dr z q A nb cb z'):LM w W z' q A nb cb X A1 k1 T A2 k2 U:=by
 have h1:=h.m.lt;have h2:=h.l1;have h3:=h.l2;exact⟨hd.cu,h.fr.trans hd.fr,h.l1,h3,rb_fr h.rb hd.fr (by omega) (.inr (by omega)),h.m.keepF hd.fr (.inr (by omega)),h.t.keepF hd.fr (by omega)⟩
theorem LM.push0 {g kA a:Nat} {wA:World} {o:Obj} (h:LM w W z q A nb cb X A1 k1 T A2 k2 U) (hT:TwoN wA (X+1) (some ⟨g,0,none⟩) kA (T++ [a]) A2 k2 U) (hb:Below (X+1) (z.alloc o) wA):
 LM w W (wA.setCell ⟨X,0,none⟩ (.slice (some ⟨g,0,none⟩) (T.length+1) kA)) q A nb cb X (some ⟨g,0,none⟩) kA (T++ [a]) A2 k2 U:=by
 have h1:=h.m.lt;have h2:=h.l1;have h3:=h.l2;have hz:Below (X+1) z wA:=(br_.alloc (by omega) o).trans hb;have hf:=frOne wA (X) 0 (.slice (some ⟨g,0,none⟩) (T.length+1) kA);refine⟨(h.cu.keepB hz (by omega)).keepF hf (by omega),(h.fr.pastB hz (by omega)).past hf (by omega),h2,h3,rb_fr (rb_below h.rb hz (by omega)) hf (by have:=hz.size;omega) (.inl (by omega)),?_,hT.keepF hf nr_⟩;rw[List.length_append,List.length_singleton];exact(h.m.keepB hz (by omega)).set0
theorem LM.push1 {g kB b:Nat} {wB:World} {o:Obj} (h:LM w W z q A nb cb X A1 k1 T A2 k2 U) (hT:TwoN wB (X+1) (some ⟨g,0,none⟩) kB (U++ [b]) A1 k1 T) (hb:Below (X+1) (z.alloc o) wB):
 LM w W (wB.setCell ⟨X,1,none⟩ (.slice (some ⟨g,0,none⟩) (U.length+1) kB)) q A nb cb X A1 k1 T (some ⟨g,0,none⟩) kB (U++ [b]):=by
 have h1:=h.m.lt;have h2:=h.l1;have h3:=h.l2;have hz:Below (X+1) z wB:=(br_.alloc (by omega) o).trans hb;have hf:=frOne wB (X) 1 (.slice (some ⟨g,0,none⟩) (U.length+1) kB);refine⟨(h.cu.keepB hz (by omega)).keepF hf (by omega),(h.fr.pastB hz (by omega)).past hf (by omega),h2,h3,rb_fr (rb_below h.rb hz (by omega)) hf (by have:=hz.size;omega) (.inl (by omega)),?_,hT.swap.keepF hf nr_⟩;rw[List.length_append,List.length_singleton];exact(h.m.keepB hz (by omega)).set1
theorem LM.old {wA:World} {o:Obj} (h:LM w W z q A nb cb X A1 k1 T A2 k2 U) (hb:Below (X+1) (z.alloc o) wA):MB wA (X) A1 T.length k1 A2 U.length k2:=by
 have h1:=h.m.lt;exact h.m.keepB ((br_.alloc (by omega) o).trans hb) (by omega)
end
section
variable {w z z':World} {q nb cb:Nat} {A:Option Addr}
theorem dgR.below {e:Ending} (h:dgR w q A nb cb e z) (hb:Below z.heap.size z z'):dgR w q A nb cb e z':=by
 obtain⟨sz,B,m,d,x,rfl,h2,ho,hd⟩:=h;exact⟨sz,B,m,d,x,rfl,h2,(ho.keepB hb nr_).mono nr_ hb.size,hd.cu.keep hb,hd.fr.trans (Fr.of_below hb)⟩
set_option maxRecDepth 100000 in
theorem GraphOfIntervals_no (Al:Option Addr) (n cl:Nat) (L:List Int) (Ar:Option Addr) (k cr:Nat) (R:List Int) (w:World) (hl:LI w Al n cl L) (hr:LI w Ar k cr R) (hnb:n<=1048576) (ho:imB L R=false):
 Calls Tryz.prog 231 #[.agg #[.slice Al n cl,.slice Ar k cr]] w fun e w'=>e=.returned (.tuple #[.agg #[.int .i64 0,.slice none 0 0],.bool false])/\Below w.heap.size w w':=by
 obtain⟨W,hW⟩: ∃W,W=((w.alloc (Obj.cells #[.slice Al n cl,.slice Ar k cr] 159)).alloc (Obj.cells #[.int .i64 0,.slice none 0 0] 26)):=⟨_,rfl⟩;have HB:Hid (From w W):=by rw[hW];exact(From.alloc _ _).alloc_ _
 have HI:Hid (IB W w.heap.size Al n cl Ar k cr):=by rw[hW];constructor<;>simp[go_sem]
 have HD:Hid (GC W (w.heap.size+1) 0 none 0 0):=by rw[hW];constructor<;>simp[go_sem]
 have HW:=hh_ hW;have HLw:=hh_ (hl.keep HB.below);have HRw:=hh_ (hr.keep HB.below);have Ho:=hh_ ho;clear hW hl hr ho;go_enter Tryz.func231,Tryz.ntmps231;have e0:=HI.c0;have e1:=HI.c1;have d0:=HD.c0;have d1:=HD.c1;have d2:=HD.f0;have d3:=HD.f1;go_wp2_with fail
 rw[<-HW.out];refine(IsModel_s Al n cl L Ar k cr R W HLw.out HRw.out hnb).mono ?_;rintro e w1 ⟨rfl,hb1⟩;clear HW;clear e0 e1 d0 d1 d2 d3;replace HB:=hh_ (HB.keep hb1);replace HI:=hh_ (HI.keep hb1);replace HD:=hh_ (HD.keep hb1);clear hb1;have e0:=HI.c0;have e1:=HI.c1;have d0:=HD.c0;have d1:=HD.c1;have d2:=HD.f0;have d3:=HD.f1;rw[Ho.out];go_wp2;have HE:=(HB.set (q:=w.heap.size+1) (by omega) (.int .i64 0) (.slice none 0 0)).below;exact bodyPost_ret (v:=.tuple #[.agg #[.int .i64 0,.slice none 0 0],.bool false]) (by simp[results,Tryz.results231,go_sem, *]) rfl ⟨rfl,HE⟩
theorem GraphOfIntervals_d (Al:Option Addr) (n cl:Nat) (L:List Int) (Ar:Option Addr) (k cr:Nat) (R:List Int) (w:World) (hl:LI w Al n cl L) (hr:LI w Ar k cr R) (hnb:n<=1048576):
 Calls Tryz.prog 231 #[.agg #[.slice Al n cl,.slice Ar k cr]] w fun e w'=> ∃(s:Int) (A':Option Addr) (m' c':Nat) (x:Nat->Int) (ok:Bool),e=.returned (.tuple #[.agg #[.int .i64 s,.slice A' m' c'],.bool ok])/\m'<=7/\Own w' w.heap.size w'.heap.size 3 1 A' m' c' (fun j=> .int .i64 (x j))/\Below w.heap.size w w':=by
 cases ho:imB L R
 ·refine(GraphOfIntervals_no Al n cl L Ar k cr R w hl hr hnb ho).mono ?_;rintro e w' ⟨he,hb⟩;exact⟨0,none,0,0,fun _=>0,false,he,by omega,Own.nil _ _ _ _ _ _,hb⟩
 ·refine(GraphOfIntervals_s Al n cl L Ar k cr R w hl hr hnb).mono ?_;rintro e w' ⟨s,A',m',c',he,h1,hb⟩;obtain⟨_,e2,h2⟩:=h1 ho;obtain⟨h7,_,_⟩:=im_parts ho;have hn:=hl.len;rw[<-e2] at h2;exact⟨s,A',m',c',_,_,he,by omega,h2,hb⟩
end
def dmQ (w:World) (q:Nat) (A:Option Addr) (nb cb:Nat) (e:Ending) (w':World):Prop:=
 ∃(A1:Option Addr) (n1 c1:Nat) (L:List Int) (A2:Option Addr) (n2 c2:Nat) (R:List Int),e=.returned (.agg #[.slice A1 n1 c1,.slice A2 n2 c2])/\n1<=7/\LI w' A1 n1 c1 L/\LI w' A2 n2 c2 R/\Dr w q A nb cb w'
section
variable {w z:World} {q nb cb n1 c1 n2 c2 lo hi1 hi2:Nat} {A A1 A2:Option Addr} {x1 x2:Nat->Int}
theorem dm_fin (hc:Cu z q A nb cb) (hfr:Fr q (q+1) w z) (h1:q<w.heap.size) (hl:w.heap.size<lo) (hn:n1<=7) (o1:Own z lo hi1 3 1 A1 n1 c1 (fun j=> .int .i64 (x1 j))) (e1:hi1<=z.heap.size) (o2:Own z lo hi2 3 1 A2 n2 c2 (fun j=> .int .i64 (x2 j))) (e2:hi2<=z.heap.size):
 dmQ w q A nb cb (.returned (.agg #[.slice A1 n1 c1,.slice A2 n2 c2])) ((z.setCell ⟨w.heap.size,0,none⟩ (.slice A1 n1 c1)).setCell ⟨w.heap.size,1,none⟩ (.slice A2 n2 c2)):=by
 have hf:=fr2 z w.heap.size (.slice A1 n1 c1) (.slice A2 n2 c2);have hs:=hf.size;exact⟨A1,n1,c1,_,A2,n2,c2,_,rfl,hn,LI.of (o1.keep hf (.inr (by omega))).rd (by omega),LI.of (o2.keep hf (.inr (by omega))).rd (by omega),hc.keepF hf (by omega),hfr.past hf nr_⟩
theorem dm_zero (hc:Cu z q A nb cb) (hfr:Fr q (q+1) w z) (h1:q<w.heap.size) (hl:w.heap.size<lo) (hn:n1<=7) (o1:Own z lo hi1 3 1 A1 n1 c1 (fun j=> .int .i64 (x1 j))) (e1:hi1<=z.heap.size) (h2:n2=0):
 dmQ w q A nb cb (.returned (.agg #[.slice A1 n1 c1,.slice A2 n2 c2])) ((z.setCell ⟨w.heap.size,0,none⟩ (.slice A1 n1 c1)).setCell ⟨w.heap.size,1,none⟩ (.slice A2 n2 c2)):=by
 subst h2;have hf:=fr2 z w.heap.size (.slice A1 n1 c1) (.slice A2 0 c2);have hs:=hf.size;exact⟨A1,n1,c1,_,A2,0,c2,[],rfl,hn,LI.of (o1.keep hf (.inr (by omega))).rd (by omega),LI.of (B:=0) (x:=fun _=>0) ⟨Nat.zero_le _,fun h=>absurd h (by omega)⟩ (Nat.zero_le _),hc.keepF hf (by omega),hfr.past hf nr_⟩
theorem dm_tail {g:Nat} (hc:Cu z q A nb cb) (hfr:Fr q (q+1) w z) (h1:q<w.heap.size) (hl:w.heap.size<lo) (hn:n1<=7) (o1:Own z lo hi1 3 1 A1 n1 c1 (fun j=> .int .i64 (x1 j))) (e1:hi1<=z.heap.size) (o2:Own z lo hi2 3 1 (some ⟨g,0,none⟩) (n2+1) (c2+1) (fun j=> .int .i64 (x2 j))) (_:hi2<=z.heap.size):
 dmQ w q A nb cb (.returned (.agg #[.slice A1 n1 c1,.slice (some ⟨g,1,none⟩) n2 c2])) ((z.setCell ⟨w.heap.size,0,none⟩ (.slice A1 n1 c1)).setCell ⟨w.heap.size,1,none⟩ (.slice (some ⟨g,1,none⟩) n2 c2)):=by
 have hf:=fr2 z w.heap.size (.slice A1 n1 c1) (.slice (some ⟨g,1,none⟩) n2 c2);have hs:=hf.size;have k2:=o2.keep hf (.inr (by omega));have hle:=k2.le;obtain⟨g',e,_,_,hlt,hcell,_⟩:=k2.at_ (by omega);simp only[Option.some.injEq,Addr.mk.injEq,and_true] at e;subst e;refine⟨A1,n1,c1,_,_,n2,c2,(List.range n2).map fun j=>x2 (1+j),rfl,hn,LI.of (o1.keep hf (.inr (by omega))).rd (by omega),LI.of (B:=((z.setCell ⟨w.heap.size,0,none⟩ (.slice A1 n1 c1)).setCell ⟨w.heap.size,1,none⟩ (.slice (some ⟨g,1,none⟩) n2 c2)).heap.size) ⟨by omega,fun hpos=>⟨g,1,rfl,hlt,fun j hj=>hcell (1+j) (by omega)⟩⟩ nr_,hc.keepF hf (by omega),hfr.past hf nr_⟩
end
section
variable {w:World} {q nb cb:Nat} {A:Option Addr}
set_option maxRecDepth 100000 in
theorem l9Model_s (hc:Cu w q A nb cb):Calls Tryz.prog 336 #[.pointer (some ⟨q,0,none⟩)] w (dmQ w q A nb cb):=by
 obtain⟨W,hW⟩: ∃W,W=(w.alloc (Obj.cells #[.slice none 0 0,.slice none 0 0] 159)):=⟨_,rfl⟩;have HM:Hid (MB W w.heap.size none 0 0 none 0 0):=by rw[hW];exact MB.new _
 have hlW:W.heap.size=w.heap.size+1:=by rw[hW];simp
 obtain⟨W2,hW2⟩: ∃W2,W2=(W.alloc (Obj.cells #[.slice none 0 0,.slice none 0 0] 159)):=⟨_,rfl⟩;have HL:Hid (LM w W W2 q A nb cb (w.heap.size+1) none 0 [] none 0 []):=by
  have hb0:Below w.heap.size w W:=by rw[hW];exact br_.alloc nr_ _
  have hb:Below W.heap.size W W2:=by rw[hW2];exact br_.alloc nr_ _
  refine⟨(hc.keep hb0).keep hb,(Fr.of_below hb0).trans (Fr.of_below hb),hc.lt,Nat.lt_succ_self _,rb_below (fun j=>⟨rfl,rfl⟩) hb (by omega),?_,TwoN.nil _ _⟩;have:=MB.new W;rw[hlW,<-hW2] at this;exact this
 rw[hW] at hW2;have HW2:=hh_ hW2;have KB:=hh_ (l1Once_s (k:=3) HL.cu (by omega) (by omega));clear hW hW2 hc hlW;go_enter Tryz.func336,Tryz.ntmps336;go_wp2_with fail
 rw[<-HW2.out];clear HW2;refine KB.mono ?_;rintro e w1 ⟨y,rfl,hd⟩;replace HL:=hh_ (HL.draw hd);clear hd KB;have KB:=hh_ (l1Below_s (k:=6) HL.cu (by omega) (by omega));go_wp2_with fail
 refine KB.mono ?_;rintro e w2 ⟨v,rfl,hv,hd⟩;replace HL:=hh_ (HL.draw hd);clear hd KB;go_wp2;go_loopw [5] (fun i wr=> ∃(k:Nat) (T U:List Nat) (A1:Option Addr) (k1:Nat) (A2:Option Addr) (k2:Nat),T.length+k<=6/\U.length+k<=6/\1<=T.length+k/\1<=U.length+k/\i=.int .i64 k/\Hid (LM w W wr q A nb cb (w.heap.size+1) A1 k1 T A2 k2 U)) (fun i _=>(intOf i).toNat);case atStart=>exact⟨v+1,[],[],none,0,none,0,by simp;omega,by simp;omega,by simp,by simp,by go_num,HL⟩
 case round=>
  clear HL;obtain⟨k,T,U,A1,k1,A2,k2,hT,hU,hT1,hU1,rfl,HL⟩:=hrel;by_cases hk0:0<k
  ·obtain⟨j,rfl⟩: ∃j,k=j+1:=⟨k-1,by omega⟩;have i1:(0:Int)<((j+1:Nat):Int):=by omega
   have KB:=hh_ (l1Below_s (k:=12) HL.cu (by omega) (by omega));go_wp2_with fail
   refine KB.mono ?_;rintro e w3 ⟨a,rfl,ha,hd⟩;replace HL:=hh_ (HL.draw hd);clear hd KB;cases y
   rotate_left
   ·obtain⟨b,hb⟩: ∃b:Nat,(a:Int)+3=(b:Int):=⟨a+3,by omega⟩;have s0:wrap64 ((a:Int)+3)=(b:Int):=by rw[hb];exact Go.IntWalk.wrap64_in _ (by omega)
    have TT:=hh_ (HL.t.alloc (Obj.cells #[.int .i64 (a:Int)] 3));have LL:Hid ((w.heap.size+1)+1<=(w3.alloc (Obj.cells #[.int .i64 (a:Int)] 3)).heap.size):=by show _<=_;have:=HL.m.lt;simp;omega
    have hla:(T++ [a]).length=T.length+1:=by rw[List.length_append];rfl
    have hlb:(U++ [b]).length=U.length+1:=by rw[List.length_append];rfl
    have n6:T.length<=1073741824:=by omega
    have n7:U.length<=1073741824:=by omega
    have c0:=HL.m.c0;have c1:=HL.m.c1;have f0:=HL.m.f0;have f1:=HL.m.f1;have hmlt:=HL.m.lt;go_wp2_with (first
     |((refine wpList_twoN _ (by rfl) _ _ (by rfl) TT.out LL.out (by rfl) w3.heap.size 1 a (by rfl) (heap_alloc_new w3 _) n6 ?_;intro gA kA wA hTA hbA;have hMA:=HL.old hbA;have mA0:=hMA.c0;have mA1:=hMA.c1;have mA2:=hMA.f0;have mA3:=hMA.f1;have nA:=hMA.lt;have HA:=HL.push0 hTA hbA))
     |((refine wpList_twoN _ (by rfl) _ _ (by rfl) (HA.t.alloc (Obj.cells #[.int .i64 (b:Int)] 3)).swap (by show _<=_;simp[World.setCell];omega) (by rfl) wA.heap.size 1 b (by rfl) (by have hh:=heap_alloc_new (wA.setCell ⟨(w.heap.size+1),0,none⟩ (.slice (some ⟨gA,0,none⟩) (T.length+1) kA)) (Obj.cells #[.int .i64 (b:Int)] 3);have he:(wA.setCell ⟨(w.heap.size+1),0,none⟩ (.slice (some ⟨gA,0,none⟩) (T.length+1) kA)).heap.size=wA.heap.size:=(by simp[World.setCell]);rw[he] at hh;exact hh) n7 ?_;intro gB kB wB hTB hbB;have hMB:=HA.old hbB;have m0:=hMB.c0;have m1:=hMB.c1;have m2:=hMB.f0;have m3:=hMB.f1;have HB9:=HA.push1 hTB hbB))
     |fail)
    obtain⟨W9,hW9⟩: ∃W9,W9=wB.setCell ⟨(w.heap.size+1),1,none⟩ (.slice (some ⟨gB,0,none⟩) (U.length+1) kB):=⟨_,rfl⟩;rw[<-hW9] at HB9 ⊢;have HL9:=hh_ HB9;clear hW9 HB9 hTA hbA hMA mA0 mA1 mA2 mA3 nA HA hTB hbB hMB m0 m1 m2 m3 TT LL c0 c1 f0 f1 hmlt;go_wp2;go_roundw;case rel=>exact⟨j,T++ [a],U++ [b],_,_,_,_,by omega,by omega,by omega,by omega,by go_num,HL9⟩
    case measure=>simp[intOf]<;>omega
   ·skip;have TT:=hh_ (HL.t.alloc (Obj.cells #[.int .i64 (a:Int)] 3));have LL:Hid ((w.heap.size+1)+1<=(w3.alloc (Obj.cells #[.int .i64 (a:Int)] 3)).heap.size):=by show _<=_;have:=HL.m.lt;simp;omega
    have hla:(T++ [a]).length=T.length+1:=by rw[List.length_append];rfl
    have n6:T.length<=1073741824:=by omega
    have n7:U.length<=1073741824:=by omega
    have c0:=HL.m.c0;have c1:=HL.m.c1;have f0:=HL.m.f0;have f1:=HL.m.f1;have hmlt:=HL.m.lt;go_wp2_with (first
     |((refine wpList_twoN _ (by rfl) _ _ (by rfl) TT.out LL.out (by rfl) w3.heap.size 1 a (by rfl) (heap_alloc_new w3 _) n6 ?_;intro gA kA wA hTA hbA;have hMA:=HL.old hbA;have mA0:=hMA.c0;have mA1:=hMA.c1;have mA2:=hMA.f0;have mA3:=hMA.f1;have nA:=hMA.lt;have HA:=HL.push0 hTA hbA))
     |fail)
    obtain⟨V,hV⟩: ∃V,V=(wA.setCell ⟨(w.heap.size+1),0,none⟩ (.slice (some ⟨gA,0,none⟩) (T.length+1) kA)):=⟨_,rfl⟩;rw[<-hV] at HA ⊢;have HLd:Hid (LM w W V.drew q A nb cb (w.heap.size+1) (some ⟨gA,0,none⟩) kA (T++ [a]) A2 k2 U):=HA.keep br_.drew;have KB6:=hh_ (l1Below_s (k:=6) HLd.cu (by omega) (by omega));have p1:=HA.m.c1;have p2:=HLd.m.c1;clear hV HA hTA hbA hMA mA0 mA1 mA2 mA3 nA TT LL c0 c1 f0 f1 hmlt;go_region_law
     (first
       |((go_simp;go_at_call 64;refine KB6.mono ?_;rintro e w4 ⟨v4,rfl,hv4,hd4⟩;have HL4:=HLd.draw hd4;have r1:=HL4.m.c1;have r2:=HL4.m.lt;obtain⟨b,hb⟩: ∃b:Nat,(a:Int)+(v4:Int)=b:=⟨a+v4,by omega⟩;have sb:IntKind.i64.wrap ((a:Int)+(v4:Int))=(b:Int):=(by rw[hb];exact Go.IntWalk.i64_in _ (by omega));clear hb))
       |((refine step_twoN _ (by rfl) _ _ (by rfl) (HL4.t.alloc (Obj.cells #[.int .i64 (b:Int)] 3)).swap (by show _<=_;simp;omega) (by rfl) w4.heap.size 1 b (by rfl) (heap_alloc_new w4 _) n7 ?_;intro gB kB wB hTB hbB hgB;have hMB:=HL4.old hbB;have m0:=hMB.c0;have m1:=hMB.c1;have m2:=hMB.f0;have m3:=hMB.f1;have HB9:=HL4.push1 hTB hbB))
       |fail)
    all_goals
     obtain⟨W9,hW9⟩: ∃W9,W9=wB.setCell ⟨(w.heap.size+1),1,none⟩ (.slice (some ⟨gB,0,none⟩) (U.length+1) kB):=⟨_,rfl⟩;rw[<-hW9] at HB9 ⊢;have HL9:=hh_ HB9;have hlb:(U++ [b]).length=U.length+1:=by rw[List.length_append];rfl
     clear hW9 HB9 hTB hbB hMB m0 m1 m2 m3 HL4 HLd KB6 r1 p1 p2;go_wp2;go_roundw;case rel=>exact⟨j,T++ [a],U++ [b],_,_,_,_,by omega,by omega,by omega,by omega,by go_num,HL9⟩
     case measure=>simp[intOf]<;>omega
  ·obtain rfl:k=0:=by omega
   clear hk0;have KB:=hh_ (l1Below_s (k:=14) HL.cu (by omega) (by omega));go_wp2_with fail
   refine KB.mono ?_;rintro e w3 ⟨s,rfl,hs,hd⟩;replace HL:=hh_ (HL.draw hd);clear hd KB;have hl3:w.heap.size+1<w3.heap.size:=HL.m.lt;have hql:=HL.l1;have n6:T.length<=7:=by omega
   by_cases h0:s=0
   ·have i0:((s:Int)==0)=true:=by simp;omega
    obtain⟨g,eA,hg1,hg2,_,_,_⟩:=HL.t.o1.at_ (by omega);subst eA;obtain⟨W4,hW4⟩: ∃W4,W4=(w3.alloc (Obj.cells #[.int .i64 (-1),.int .i64 99,.int .i64 100] 3)).drew:=⟨_,rfl⟩;have hb4:Below w3.heap.size w3 W4:=by rw[hW4];exact(br_.alloc nr_ _).drew
    have hl4:w3.heap.size<W4.heap.size:=by rw[hW4];show _<(w3.alloc _).heap.size;simp
    have hl:LC W4 w3.heap.size 3:=by
     refine⟨fun j hj=> ?_⟩;rw[hW4];have hj5:j=0\/j=1\/j=2:=by omega
     rcases hj5 with rfl|rfl|rfl
     ·exact⟨-1,by simp[go_sem]⟩
     ·exact⟨99,by simp[go_sem]⟩
     ·exact⟨100,by simp[go_sem]⟩
    have HL4:=hh_ (HL.keep hb4);have KP:=hh_ (l1PickInt_s (k:=3) HL4.cu hl (by omega) hl4 (by omega) (by omega));have c0:=HL.m.c0;have i2:(0:Int)<T.length:=by omega
    rw[hW4] at KP;have HW4:=hh_ hW4;clear hW4 hb4 hl h0 hs;go_wp2;go_region_with ((go_at_call 87;refine KP.mono ?_;rintro e w5 ⟨z,rfl,hd⟩;rw[<-HW4.out] at hd;have HL5:=HL4.draw hd;have y1:=HL5.m.c0;have y2:w5.cell? ⟨g,0,none⟩=some (ni T 0):=(by obtain⟨g',e,_,_,_,h,_⟩:=HL5.t.o1.at_ (by omega);simp only[Option.some.injEq,Addr.mk.injEq,and_true] at e;subst e;exact h 0 (by omega));have y3:w5.frozen? ⟨g,0,none⟩=false:=(by obtain⟨g',e,_,_,_,_,h⟩:=HL5.t.o1.at_ (by omega);simp only[Option.some.injEq,Addr.mk.injEq,and_true] at e;subst e;exact h 0)))
    all_goals
     have hf:=(Fr.refl g (g+1) w5).setCell (p:=⟨g,0,none⟩) nr_ (Nat.lt_succ_self _) (.int .i64 z);have hs5:=hf.size;have ho1:Own (w5.setCell ⟨g,0,none⟩ (.int .i64 z)) (w.heap.size+1+1) w5.heap.size 3 1 (some ⟨g,0,none⟩) T.length k1 (fun j=> .int .i64 (if j=0 then z else ((T.getD j 0:Nat):Int))):=(HL5.t.o1.set_ 0 (.int .i64 z)).congr fun j _=>by by_cases h:j=0<;>simp[h,ni]
     have ho2:=HL5.t.o2.keep1 hf (HL5.t.ne _ rfl);have HF:=hh_ (dm_fin (HL5.cu.keepF hf (by omega)) (HL5.fr.past hf (by omega)) HL5.l1 (Nat.lt_succ_of_lt (Nat.lt_succ_self _)) n6 ho1 hs5 ho2 hs5);have hm:=HL5.m.keepF hf (.inl (by omega));have hr:=rb_fr HL5.rb hf (by have:=HL5.m.lt;omega) (.inl (by omega));have c0:=hm.c0;have c1:=hm.c1;have d0:=(hr 0).1.trans HM.c0;have d1:=(hr 1).1.trans HM.c1;have d2:=(hr 0).2.trans HM.f0;have d3:=(hr 1).2.trans HM.f1;obtain⟨V,hV⟩: ∃V,V=w5.setCell ⟨g,0,none⟩ (.int .i64 z):=⟨_,rfl⟩;rw[<-hV] at HF c0 c1 d0 d1 d2 d3 ⊢;rename∀(a:Act) (w':World),_->_=>hK
     refine hK _ _ ?_;clear hf ho1 ho2 hd KP HL4 HL5 hm hr hV hK HL;go_wp2;exact bodyPost_ret (v:=.agg #[.slice (some ⟨g,0,none⟩) T.length k1,.slice A2 U.length k2]) (by simp[results,Tryz.results336,go_sem,d0,d1]) rfl HF.out
   ·have i0:((s:Int)==0)=false:=by simp;omega
    by_cases h1:s=1
    ·have i2:((s:Int)==1)=true:=by simp;omega
     obtain⟨g,eA,hg1,hg2,_,_,_⟩:=HL.t.o2.at_ (by omega);subst eA;have hle:=HL.t.o2.le;have i3:(1:Int)<=U.length:=by omega
     have i4:(U.length:Int)<=(k2:Int):=by omega
     have c0:=HL.m.c0;have c1:=HL.m.c1;have f0:=HL.m.f0;have f1:=HL.m.f1;have d0:=(HL.rb 0).1.trans HM.c0;have d1:=(HL.rb 1).1.trans HM.c1;have d2:=(HL.rb 0).2.trans HM.f0;have d3:=(HL.rb 1).2.trans HM.f1;have hf:=frOne w3 (w.heap.size+1) 1 (.slice (some ⟨g,1,none⟩) (U.length-1) (k2-1));have ht:=HL.t.keepF hf nr_;have ho2:Own (w3.setCell ⟨w.heap.size+1,1,none⟩ (.slice (some ⟨g,1,none⟩) (U.length-1) (k2-1))) (w.heap.size+1+1) (w3.setCell ⟨w.heap.size+1,1,none⟩ (.slice (some ⟨g,1,none⟩) (U.length-1) (k2-1))).heap.size 3 1 (some ⟨g,0,none⟩) (U.length-1+1) (k2-1+1) (ni U):=by
      rw[Nat.sub_add_cancel (by omega),Nat.sub_add_cancel (by omega)];exact ht.o2
     have HF:=hh_ (dm_tail (HL.cu.keepF hf (by omega)) (HL.fr.past hf (Nat.le_succ _)) HL.l1 (Nat.lt_succ_of_lt (Nat.lt_succ_self _)) n6 ht.o1 nr_ ho2 nr_);have hf0:=frOne w3 (w.heap.size+1) 1 (.slice (some ⟨g,0,none⟩) (U.length-1) 0);have ht0:=HL.t.keepF hf0 nr_;have HF0:Hid (k2<=1->_):=fun h:k2<=1=>dm_zero (A2:=some ⟨g,0,none⟩) (c2:=0) (n2:=U.length-1) (HL.cu.keepF hf0 (by omega)) (HL.fr.past hf0 (Nat.le_succ _)) HL.l1 (Nat.lt_succ_of_lt (Nat.lt_succ_self _)) n6 ht0.o1 nr_ (by omega)
     clear h0 h1 hs hf ht ho2 hf0 ht0;go_wp2;all_goals first
      |exact bodyPost_ret (v:=.agg #[.slice A1 T.length k1,.slice (some ⟨g,1,none⟩) (U.length-1) (k2-1)]) (by simp[results,Tryz.results336,go_sem, *]) rfl HF.out
      |exact bodyPost_ret (v:=.agg #[.slice A1 T.length k1,.slice (some ⟨g,0,none⟩) (U.length-1) 0]) (by simp[results,Tryz.results336,go_sem, *]) rfl (HF0.out (by omega))
    ·have i2:((s:Int)==1)=false:=by simp;omega
     have HF:=hh_ (dm_fin HL.cu HL.fr HL.l1 (Nat.lt_succ_of_lt (Nat.lt_succ_self _)) n6 HL.t.o1 nr_ HL.t.o2 nr_);have c0:=HL.m.c0;have c1:=HL.m.c1;have d0:=(HL.rb 0).1.trans HM.c0;have d1:=(HL.rb 1).1.trans HM.c1;have d2:=(HL.rb 0).2.trans HM.f0;have d3:=(HL.rb 1).2.trans HM.f1;clear h0 h1 hs;go_wp2;exact bodyPost_ret (v:=.agg #[.slice A1 T.length k1,.slice A2 U.length k2]) (by simp[results,Tryz.results336,go_sem, *]) rfl HF.out
end
section
variable {w:World} {q nb cb:Nat} {A:Option Addr}
set_option maxRecDepth 100000 in
theorem l10Graph_s (hc:Cu w q A nb cb):Calls Tryz.prog 303 #[.pointer (some ⟨q,0,none⟩)] w (dgR w q A nb cb):=by
 obtain⟨W,hW⟩: ∃W,W=(w.alloc (Obj.cells #[.int .i64 0,.slice none 0 0] 26)):=⟨_,rfl⟩;have HD:Hid (D0 w W q A nb cb):=by rw[hW];exact D0.new hc
 have HW:=hh_ hW;have KB:=hh_ (l1Once_s (k:=2) HD.cu (by omega) (by omega));clear hW hc;go_enter Tryz.func303,Tryz.ntmps303;go_wp2_with fail
 rw[<-HW.out];clear HW;refine KB.mono ?_;rintro e w1 ⟨y,rfl,hd⟩;replace HD:=hh_ (HD.draw hd);clear hd KB;have hq2:=HD.lt;cases y
 rotate_left
 ·have KR:=hh_ (l8Chordal_s HD.cu);go_wp2_with fail
  refine KR.mono ?_;rintro e w3 ⟨sz,B,m,d,x,rfl,hm7,ho,hd⟩;have HD3:=hh_ (HD.draw hd);have HF:=hh_ (dgR.fin0 (sz:=sz) hm7 HD3.cu HD3.fr HD3.l1 ho hq2);have d0:=HD3.d.c0;have d1:=HD3.d.c1;have d2:=HD3.d.f0;have d3:=HD3.d.f1;clear ho hd KR HD;go_wp2;exact bodyPost_ret (v:=.agg #[.int .i64 sz,.slice B m d]) (by simp[results,Tryz.results303,go_sem, *]) rfl HF.out
 ·have KR:=hh_ (l9Model_s HD.cu);go_wp2_with fail
  refine KR.mono ?_;rintro e w3 ⟨A1,n1,c1,L,A2,n2,c2,R,rfl,hn1,hL,hR,hd⟩;have HD3:=hh_ (HD.draw hd);have hl3:=HD3.lt;have KG:=hh_ (GraphOfIntervals_d A1 n1 c1 L A2 n2 c2 R w3 hL hR (by omega));clear hL hR hd KR HD;go_wp2_with fail
  refine KG.mono ?_;rintro e w5 ⟨s5,A5,m5,c5,x5,ok5,rfl,h7,ho5,hb5⟩;have HD5:=hh_ (HD3.keep hb5);have d0:=HD5.d.c0;have d1:=HD5.d.c1;have d2:=HD5.d.f0;have d3:=HD5.d.f1;have HE:=hh_ ((dgR.fin0 (sz:=s5) h7 HD5.cu HD5.fr HD5.l1 ho5 hl3).below (br_.alloc nr_ (Obj.cells #[.int .i64 s5,.slice A5 m5 c5] 26)));have hl5:w.heap.size<w5.heap.size:=HD5.lt;have j1:(w.heap.size=w5.heap.size)=False:=by simp;omega
  have j2:(w5.heap.size=w.heap.size)=False:=by simp;omega
  clear ho5 hb5 KG HD3 HD5;go_wp2;exact bodyPost_ret (v:=.agg #[.int .i64 s5,.slice A5 m5 c5]) (by simp[results,Tryz.results303,go_sem, *]) rfl HE.out
end
end Go.Proofs.YtfabbohijhjpcaaGreatDoor
