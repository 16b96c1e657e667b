/- Lemmas. -/
import Derived.Test.YtfabbohijhjpcaaGreatDoorRbDrwO
import Derived.Test.YtfabbohijhjpcaaGreatDoorRbWbI
import Derived.Test.YtfabbohijhjpcaaGreatDoorRbDrxS
/-
-/
namespace Go.Proofs.YtfabbohijhjpcaaGreatDoor
open Go.RowKit
set_option maxHeartbeats 6400000
section
variable {w:World} {q nb cb:Nat} {A:Option Addr}
set_option maxRecDepth 100000 in
theorem l29Graph_s (hc:Cu w q A nb cb):Calls Tryz.prog 97 #[.pointer (some ⟨q,0,none⟩)] w (dgR w q A nb cb):=by
 obtain⟨W,hW⟩: ∃W,W=(w.alloc (Obj.cells #[.int .i64 0,.slice none 0 0] 26)):=⟨_,rfl⟩;have HD:Hid (D0 w W q A nb cb):=by rw[hW];exact D0.new hc
 have HW:=hh_ hW;have KB:=hh_ (l1Below_s (k:=6) HD.cu (by omega) (by omega));clear hW hc;go_enter Tryz.func97,Tryz.ntmps97;go_wp2_with fail
 rw[<-HW.out];clear HW;refine KB.mono ?_;rintro e w1 ⟨y,rfl,hy,hd⟩;replace HD:=hh_ (HD.draw hd);clear hd KB;have hq2:=HD.lt;by_cases y0:y=0
 ·have j0:((y:Int)==0)=true:=by simp;omega
  clear y0 hy;have KR:=hh_ (l8Chordal_s HD.cu);go_wp2_with fail
  refine KR.mono ?_;rintro e w3 ⟨sz,B,m,d,x,rfl,hm7,ho,hd⟩;have HD3:=hh_ (HD.draw hd);have HF:=hh_ (dgR.fin0 (sz:=sz) hm7 HD3.cu HD3.fr HD3.l1 ho hq2);have d0:=HD3.d.c0;have d1:=HD3.d.c1;have d2:=HD3.d.f0;have d3:=HD3.d.f1;clear ho hd KR HD;go_wp2;exact bodyPost_ret (v:=.agg #[.int .i64 sz,.slice B m d]) (by simp[results,Tryz.results97,go_sem, *]) rfl HF.out
 have j0:((y:Int)==0)=false:=by rw[beq_eq_false_iff_ne];omega
 by_cases y1:y=1
 ·have j1:((y:Int)==1)=true:=by simp;omega
  clear y0 y1 hy;have KR:=hh_ (l12Graph_s HD.cu);go_wp2_with fail
  refine KR.mono ?_;rintro e w3 ⟨sz,B,m,d,x,rfl,hm7,ho,hd⟩;have HD3:=hh_ (HD.draw hd);have HF:=hh_ (dgR.fin0 (sz:=sz) hm7 HD3.cu HD3.fr HD3.l1 ho hq2);have d0:=HD3.d.c0;have d1:=HD3.d.c1;have d2:=HD3.d.f0;have d3:=HD3.d.f1;clear ho hd KR HD;go_wp2;exact bodyPost_ret (v:=.agg #[.int .i64 sz,.slice B m d]) (by simp[results,Tryz.results97,go_sem, *]) rfl HF.out
 have j1:((y:Int)==1)=false:=by rw[beq_eq_false_iff_ne];omega
 by_cases y2:y=2
 ·have j2:((y:Int)==2)=true:=by simp;omega
  clear y0 y1 y2 hy;have KR:=hh_ (l17Graph_s HD.cu);go_wp2_with fail
  refine KR.mono ?_;rintro e w3 ⟨sz,B,m,d,x,rfl,hm7,ho,hd⟩;have HD3:=hh_ (HD.draw hd);have HF:=hh_ (dgR.fin0 (sz:=sz) hm7 HD3.cu HD3.fr HD3.l1 ho hq2);have d0:=HD3.d.c0;have d1:=HD3.d.c1;have d2:=HD3.d.f0;have d3:=HD3.d.f1;clear ho hd KR HD;go_wp2;exact bodyPost_ret (v:=.agg #[.int .i64 sz,.slice B m d]) (by simp[results,Tryz.results97,go_sem, *]) rfl HF.out
 have j2:((y:Int)==2)=false:=by rw[beq_eq_false_iff_ne];omega
 by_cases y3:y=3
 ·have j3:((y:Int)==3)=true:=by simp;omega
  clear y0 y1 y2 y3 hy;have KR:=hh_ (l19Graph_s HD.cu);go_wp2_with fail
  refine KR.mono ?_;rintro e w3 ⟨sz,B,m,d,x,rfl,hm7,ho,hd⟩;have HD3:=hh_ (HD.draw hd);have HF:=hh_ (dgR.fin0 (sz:=sz) hm7 HD3.cu HD3.fr HD3.l1 ho hq2);have d0:=HD3.d.c0;have d1:=HD3.d.c1;have d2:=HD3.d.f0;have d3:=HD3.d.f1;clear ho hd KR HD;go_wp2;exact bodyPost_ret (v:=.agg #[.int .i64 sz,.slice B m d]) (by simp[results,Tryz.results97,go_sem, *]) rfl HF.out
 have j3:((y:Int)==3)=false:=by rw[beq_eq_false_iff_ne];omega
 by_cases y4:y=4
 ·have j4:((y:Int)==4)=true:=by simp;omega
  clear y0 y1 y2 y3 y4 hy;have KR:=hh_ (l20Graph_s HD.cu);go_wp2_with fail
  refine KR.mono ?_;rintro e w3 ⟨sz,B,m,d,x,rfl,hm7,ho,hd⟩;have HD3:=hh_ (HD.draw hd);have HF:=hh_ (dgR.fin0 (sz:=sz) hm7 HD3.cu HD3.fr HD3.l1 ho hq2);have d0:=HD3.d.c0;have d1:=HD3.d.c1;have d2:=HD3.d.f0;have d3:=HD3.d.f1;clear ho hd KR HD;go_wp2;exact bodyPost_ret (v:=.agg #[.int .i64 sz,.slice B m d]) (by simp[results,Tryz.results97,go_sem, *]) rfl HF.out
 have j4:((y:Int)==4)=false:=by rw[beq_eq_false_iff_ne];omega
 clear y0 y1 y2 y3 y4 hy;have KR:=hh_ (l4Holey_s HD.cu);go_wp2_with fail
 refine KR.mono ?_;rintro e w3 ⟨sz,B,m,d,x,rfl,_,hm7,ho,hd⟩;have HD3:=hh_ (HD.draw hd);have HF:=hh_ (dgR.fin0 (sz:=sz) hm7 HD3.cu HD3.fr HD3.l1 ho hq2);have d0:=HD3.d.c0;have d1:=HD3.d.c1;have d2:=HD3.d.f0;have d3:=HD3.d.f1;clear ho hd KR HD;go_wp2;exact bodyPost_ret (v:=.agg #[.int .i64 sz,.slice B m d]) (by simp[results,Tryz.results97,go_sem, *]) rfl HF.out
end
set_option maxHeartbeats 6400000
section
variable {w:World} {n c:Nat} {A:Option Addr}
set_option maxRecDepth 100000 in
theorem l32Three_s (hb:By w w.heap.size A n c) (hn:n<=1048576):
 Calls Tryz.prog 46 #[.slice A n c] w fun e w'=> ∃(s1:Int) (B1:Option Addr) (m1 d1:Nat) (x1:Nat->Int) (A3:Option Addr) (c3:Nat) (T:List (Bool×Int×Int)) (t:ByteArray),e=.returned (.tuple #[.agg #[.int .i64 s1,.slice B1 m1 d1],.slice A3 T.length c3,.string t])/\SG w w' B1 m1 d1 x1/\T.length<=6/\Own w' w.heap.size w'.heap.size 48 3 A3 T.length c3 (edT T):=by
 obtain⟨W,hW⟩: ∃W,W=(w.alloc (Obj.cells #[.int .i64 0,.slice none 0 0] 26)):=⟨_,rfl⟩;have HB:Hid (Below w.heap.size w W):=by rw[hW];exact br_.alloc nr_ _
 have hlW:W.heap.size=w.heap.size+1:=by rw[hW];simp
 have HR0:Hid (GC W (w.heap.size) 0 none 0 0):=by rw[hW];constructor<;>simp[go_sem]
 have HW:=hh_ hW;have KB:=hh_ (l1New_s (hb.keep HB (by omega)) hn:Calls Tryz.prog 33 #[.slice A n c] W _);clear hW hb;go_enter Tryz.func46,Tryz.ntmps46;go_wp2_with fail
 rw[<-HW.out];clear HW;refine KB.mono ?_;rintro e w1 ⟨q,rfl,hq,hc,hb⟩;replace HR0:=hh_ (HR0.keep hb);have hl1:=hb.size;replace HB:=hh_ (HB.trans (hb.mono (by omega)));have HC:=hh_ hc;clear hb KB hc;have hql:=HC.lt;have KB:=hh_ (l29Name_s HC);go_wp2_with fail
 refine KB.mono ?_;rintro e w4 ⟨t,rfl,hd⟩;replace HR0:=hh_ (HR0.keepF hd.fr (.inl (by omega)));have hl4:=hd.fr.size;replace HB:=hh_ (HB.trans (hd.fr.below (by omega) (by omega)));replace HC:=hh_ hd.cu;clear hd KB;have KB:=hh_ (l29Graph_s HC);go_wp2_with fail
 refine KB.mono ?_;rintro e w2 ⟨s1,B1,m1,d1,x1,rfl,h7m1,ho,hd⟩;replace HR0:=hh_ (HR0.keepF hd.fr (.inl (by omega)));have hlw2:=hd.fr.size;replace HB:=hh_ (HB.trans (hd.fr.below (by omega) (by omega)));replace HC:=hh_ hd.cu;have HO1:=hh_ ho;clear hd KB ho;obtain⟨U,hU⟩: ∃U,U=(w2.alloc (Obj.cells #[.int .i64 s1,.slice B1 m1 d1] 26)):=⟨_,rfl⟩;have hbU:Below w2.heap.size w2 U:=by rw[hU];exact br_.alloc nr_ _
 have hlU:U.heap.size=w2.heap.size+1:=by rw[hU];simp
 have HG1:Hid (GC U w2.heap.size s1 B1 m1 d1):=by rw[hU];exact GC.new _ _ _ _ _
 replace HR0:=hh_ (HR0.keep hbU);replace HB:=hh_ (HB.trans (hbU.mono (by omega)));replace HC:=hh_ (HC.keep hbU);replace HO1:=hh_ (HO1.keepB hbU nr_);have HU:=hh_ hU;have HQL:Hid (q+1<=w2.heap.size):=by show _<=_;omega
 have HQW:Hid (w.heap.size+1<=w2.heap.size):=by show _<=_;omega
 have hq3:w.heap.size+1<=q:=by omega
 have hlr:=HG1.lt;have KL0:=hh_ (l32Edits_s (sz:=s1) (B:=B1) (m:=m1) (d:=d1) (HC.keep br_.drew:Cu U.drew q A n c) HO1.drew (by omega) (by show w2.heap.size<=U.heap.size;omega) (by omega));have HS1:Hid (U.drew.cell? ⟨w2.heap.size,0,none⟩=some (.int .i64 s1)/\U.drew.cell? ⟨w2.heap.size,1,none⟩=some (.slice B1 m1 d1)):=⟨HG1.c0,HG1.c1⟩;clear hU hbU;go_wp2;rw[<-HU.out];clear HU;go_region_held3 (fun z=>z.cell? ⟨w2.heap.size,0,none⟩=some (.int .i64 s1)/\z.cell? ⟨w2.heap.size,1,none⟩=some (.slice B1 m1 d1))
  (first|exact HS1.out|assumption|exact z6|exact z7|fail)
  (first
    |((go_at_call 35;((with_reducible refine KL0.out.mono ?_);rintro e w6 ⟨A6,c6,T6,rfl,h6,ho6,hd6⟩;have HR6:=HR0.out.drew.keepF hd6.fr (.inl hq3);have HG6:=HG1.out.drew.keepF hd6.fr (.inr HQL.out);have y0:=HR6.c0;have y1:=HR6.c1;have y2:=HR6.f0;have y3:=HR6.f1;have z6:w6.cell? ⟨w2.heap.size,0,none⟩=some (.int .i64 s1)/\w6.cell? ⟨w2.heap.size,1,none⟩=some (.slice B1 m1 d1):=⟨HG6.c0,HG6.c1⟩;have HG7:=HG6.keepF (fr2 w6 w.heap.size (.int .i64 s1) (.slice B1 m1 d1)) (.inr HQW.out);have z7:((w6.setCell ⟨w.heap.size,0,none⟩ (.int .i64 s1)).setCell ⟨w.heap.size,1,none⟩ (.slice B1 m1 d1)).cell? ⟨w2.heap.size,0,none⟩=some (.int .i64 s1)/\((w6.setCell ⟨w.heap.size,0,none⟩ (.int .i64 s1)).setCell ⟨w.heap.size,1,none⟩ (.slice B1 m1 d1)).cell? ⟨w2.heap.size,1,none⟩=some (.slice B1 m1 d1):=⟨HG7.c0,HG7.c1⟩)))
    |fail)
 have F:=fr2 w6 w.heap.size (.int .i64 s1) (.slice B1 m1 d1);have hz6:U.heap.size<=w6.heap.size:=hd6.fr.size;have HF:=hh_ (SG.fin (HB.drew.trans (hd6.fr.below (by omega) HB.size)) F h7m1 (HO1.drew.keep hd6.fr (.inr (by omega))) (by omega) (by omega));have HI:=hh_ ((ho6.keep F (.inr (by show w.heap.size+1<=U.heap.size;omega))).mono (show w.heap.size<=U.drew.heap.size by show _<=U.heap.size;omega) F.size);clear F hd6 ho6 HR6 HG6 HG7 z6 z7 KL0 HS1;go_wp2;exact bodyPost_ret (v:=.tuple #[.agg #[.int .i64 s1,.slice B1 m1 d1],.slice A6 T6.length c6,.string t]) (by simp[results,Tryz.results46,go_sem, *]) rfl ⟨s1,B1,m1,d1,x1,A6,c6,T6,t,rfl,HF.out,h6,HI.out⟩
set_option maxRecDepth 100000 in
theorem DrawMembershipOf_s (hb:By w w.heap.size A n c) (hn:n<=1048576):
 Calls Tryz.prog 14 #[.slice A n c] w fun e w'=> ∃(s1:Int) (B1:Option Addr) (m1 d1:Nat) (x1:Nat->Int) (A3:Option Addr) (c3:Nat) (T:List (Bool×Int×Int)) (t:ByteArray),e=.returned (.tuple #[.agg #[.int .i64 s1,.slice B1 m1 d1],.slice A3 T.length c3,.string t])/\SG w w' B1 m1 d1 x1/\T.length<=6/\Own w' w.heap.size w'.heap.size 48 3 A3 T.length c3 (edT T):=by
 obtain⟨W,hW⟩: ∃W,W=(w.alloc (Obj.cells #[.int .i64 0,.slice none 0 0] 26)):=⟨_,rfl⟩;have HB:Hid (Below w.heap.size w W):=by rw[hW];exact br_.alloc nr_ _
 have hlW:W.heap.size=w.heap.size+1:=by rw[hW];simp
 have HR0:Hid (GC W (w.heap.size) 0 none 0 0):=by rw[hW];constructor<;>simp[go_sem]
 have HW:=hh_ hW;have KB:=hh_ (l32Three_s (hb.keep HB (by omega)) hn:Calls Tryz.prog 46 #[.slice A n c] W _);clear hW hb;go_enter Tryz.func14,Tryz.ntmps14;go_wp2_with fail
 rw[<-HW.out];clear HW;refine KB.mono ?_;rintro e w2 ⟨s1,B1,m1,d1,x1,A3,c3,T,t,rfl,hS,hT,hoT⟩;have hb:=hS.b;replace HR0:=hh_ (HR0.keep hb);have hl1:=hb.size;replace HB:=hh_ (HB.trans (hb.mono (by omega)));have h7m1:=hS.h7;have HO1:=hh_ hS.o1;have HOT:=hh_ hoT;have hlt:w.heap.size<w2.heap.size:=by omega
 have j1:(w.heap.size=w2.heap.size)=False:=by simp;omega
 have j2:(w2.heap.size=w.heap.size)=False:=by simp;omega
 clear hb KB hS hoT;have r0c0:=HR0.c0;have r0c1:=HR0.c1;have r0f0:=HR0.f0;have r0f1:=HR0.f1;have F:=fr2 w2 w.heap.size (.int .i64 s1) (.slice B1 m1 d1);have HI:=hh_ ((HOT.keep F (.inr (by omega))).mono (show w.heap.size<=W.heap.size by omega) F.size);go_wp2;exact bodyPost_ret (v:=.tuple #[.agg #[.int .i64 s1,.slice B1 m1 d1],.slice A3 T.length c3,.string t]) (by simp[results,Tryz.results14,go_sem, *]) rfl ⟨s1,B1,m1,d1,x1,A3,c3,T,t,rfl,(SG.fin HB F h7m1 HO1.out (by omega) nr_).alloc _,hT,(HI.alloc _).mono nr_ (by simp)⟩
end
open Go.ChangeShapes Go.WideShapes Go.ChangeAt Go.RowKit Go.Deep
structure BX (w:World) (A:Option Addr) (n c:Nat):Prop where
 b:By w w.heap.size A n c
theorem BX.keep {w w':World} {A:Option Addr} {n c:Nat} (h:BX w A n c) (hb:Below w.heap.size w w'):BX w' A n c:=⟨h.b.keep hb hb.size⟩
section
variable {H:Type} {enc:TypeId×Value->H} {w:World} {base:Nat} {spare:Nat->Bool} {held:Bool}
set_option maxRecDepth 100000 in
theorem open_bytes_arg {r:Reach} {b0:Nat} {vv:Value} {d:DataW H} {p:List MemPlace} (_hv:Value.okWide Tryz.prog w r b0 22 vv)
 (h:DataW.Trod enc Tryz.prog w base spare held 22 vv d p): ∃A n c,vv=.slice A n c/\BX w A n c/\n<=maxLen:=by
 obtain⟨A0,n0,c0,rfl⟩:=okWide_slice Tryz.underlying22 _hv;obtain⟨fuel,hf⟩:=h;rcases open_ints Tryz.underlying22 Tryz.underlying5 (by kernel_rfl) hf with ⟨hcs,_⟩|⟨a,l,c,zs,hcs,_,hl,hm,hz,_,hcell,hwz⟩
 ·simp[Value.cells] at hcs;obtain⟨rfl,rfl,rfl⟩:=hcs;exact⟨none,0,0,rfl,⟨⟨nr_,fun h=>absurd h (by omega)⟩⟩,Nat.zero_le _⟩
 ·simp[Value.cells] at hcs;obtain⟨rfl,rfl,rfl⟩:=hcs;refine⟨some a,n0,c0,rfl,⟨⟨hl,fun hn=> ?_⟩⟩,by omega⟩;have hzl:n0<=zs.length:=by rw[hz];split<;>omega
  obtain⟨b,o,s⟩:=a;have h0:=hcell 0 (by omega);have hs:s=none:=by simpa [Addr.add] using World.cell?_spot h0
  subst hs;have hadd: ∀k,(⟨b,o,none⟩:Addr).add k=⟨b,o+k,none⟩:=fun k=>by unfold Addr.add;split<;>simp_all
  simp only[hadd] at hcell h0;refine⟨b,o,rfl,World.block_lt_of_cell? w _ h0,fun j hj=> ?_⟩;have hj2:j<zs.length:=by omega
  have hb:=bounds_u8 (hwz (zs.getD j 0) (by simp[List.getD,hj2]));refine⟨(zs.getD j 0).toNat,by omega,?_⟩;rw[hcell j hj2,Int.toNat_of_nonneg hb.1]
end
theorem big_s (A:Option Addr) (n c:Nat) (w:World) (hn:n<=maxLen):
 Calls Tryz.prog 5 #[.slice A n c] w fun e w'=>e=.returned (.bool (decide (1048576<n)))/\w'=w:=by
 unfold maxLen at hn;go_enter Tryz.func5,Tryz.ntmps5;go_wp2;go_ret;exact⟨ret_bool (decide_eq_decide.2 (by omega)),rfl⟩
structure GX (W:World) (q:Nat) (s:Int) (A:Option Addr) (m c:Nat) (x:Nat->Int):Prop where
 c0:W.cell? ⟨q,0,none⟩=some (.int .i64 s)
 c1:W.cell? ⟨q,1,none⟩=some (.slice A m c)
 a:GA W A m c x
section
variable {w w':World} {q m1 c1 m2 c2 m3 c3:Nat} {s1 s2 s3:Int} {A1 A2 A3:Option Addr} {x1 x2 x3:Nat->Int}
theorem GX.keep (h:GX w q s1 A1 m1 c1 x1) (hb:Below w.heap.size w w'):GX w' q s1 A1 m1 c1 x1:=⟨up hb h.c0 (World.block_lt_of_cell? _ _ h.c0),up hb h.c1 (World.block_lt_of_cell? _ _ h.c1),h.a.keep hb⟩
theorem GX.new (h:GA w A1 m1 c1 x1):GX (w.alloc (Obj.cells #[.int .i64 s1,.slice A1 m1 c1] 26)) w.heap.size s1 A1 m1 c1 x1:=
 ⟨by simp[go_sem],by simp[go_sem],h.keep (br_.alloc nr_ _)⟩
theorem GX.two (h1:GA w A1 m1 c1 x1) (h2:GA w A2 m2 c2 x2):
 GX ((w.alloc (Obj.cells #[.int .i64 s1,.slice A1 m1 c1] 26)).alloc (Obj.cells #[.int .i64 s2,.slice A2 m2 c2] 26)) w.heap.size s1 A1 m1 c1 x1/\GX ((w.alloc (Obj.cells #[.int .i64 s1,.slice A1 m1 c1] 26)).alloc (Obj.cells #[.int .i64 s2,.slice A2 m2 c2] 26)) (w.heap.size+1) s2 A2 m2 c2 x2/\Below w.heap.size w ((w.alloc (Obj.cells #[.int .i64 s1,.slice A1 m1 c1] 26)).alloc (Obj.cells #[.int .i64 s2,.slice A2 m2 c2] 26)):=by
 have hb:Below w.heap.size w ((w.alloc (Obj.cells #[.int .i64 s1,.slice A1 m1 c1] 26)).alloc (Obj.cells #[.int .i64 s2,.slice A2 m2 c2] 26)):=(br_.alloc nr_ _).alloc (by simp) _;exact⟨⟨by simp[go_sem],by simp[go_sem],h1.keep hb⟩,⟨by simp[go_sem],by simp[go_sem],h2.keep hb⟩,hb⟩
theorem GX.three (h1:GA w A1 m1 c1 x1) (h2:GA w A2 m2 c2 x2) (h3:GA w A3 m3 c3 x3) {W:World} (hW:W=(((w.alloc (Obj.cells #[.int .i64 s1,.slice A1 m1 c1] 26)).alloc (Obj.cells #[.int .i64 s2,.slice A2 m2 c2] 26)).alloc (Obj.cells #[.int .i64 s3,.slice A3 m3 c3] 26))):
 GX W w.heap.size s1 A1 m1 c1 x1/\GX W (w.heap.size+1) s2 A2 m2 c2 x2/\GX W (w.heap.size+2) s3 A3 m3 c3 x3/\Below w.heap.size w W:=by
 have hb:Below w.heap.size w W:=by rw[hW];exact((br_.alloc nr_ _).alloc (by simp) _).alloc (by simp;omega) _
 refine⟨⟨?_,?_,h1.keep hb⟩,⟨?_,?_,h2.keep hb⟩,⟨?_,?_,h3.keep hb⟩,hb⟩<;>(rw[hW];simp[go_sem])
end
end Go.Proofs.YtfabbohijhjpcaaGreatDoor
