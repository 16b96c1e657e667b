/- Lemmas. -/
import Derived.Shelf.Strconv.Itoa3
import Derived.Shelf.Strings.OnBuilder
import Derived.Test.YtfabbohijhjpcaaGreatDoorRbFmT
/-
-/
namespace Go.Proofs.YtfabbohijhjpcaaGreatDoor
open Go.Shelf Go.RowKit
def layJoin_ren:Go.Shelf.Ren:=⟨fun|156=>62|165=>118|166=>119|169=>120|240=>183|241=>184|276=>265|277=>266|n=>n,fun|31=>72|9=>9|3=>3|4=>4|0=>0|20=>20|72=>104|76=>108|70=>102|37=>22|75=>107|127=>138|164=>173|5=>5|80=>110|n=>n,fun|n=>n⟩
theorem layJoin:Go.Proofs.Lays.n156 Tryz.prog layJoin_ren:= {
 mixed:=by kernel_rfl
 f156:=Tryz.func62.trans (congrArg some (by kernel_rfl))
 f165:=Tryz.func118.trans (congrArg some (by kernel_rfl))
 f166:=Tryz.func119.trans (congrArg some (by kernel_rfl))
 f169:=Tryz.func120.trans (congrArg some (by kernel_rfl))
 f240:=Tryz.func183.trans (congrArg some (by kernel_rfl))
 f241:=Tryz.func184.trans (congrArg some (by kernel_rfl))
 f276:=Tryz.func265.trans (congrArg some (by kernel_rfl))
 f277:=Tryz.func266.trans (congrArg some (by kernel_rfl))
 t0:=Tryz.underlying0
 a0:=Tryz.isAgg0
 z0:=Tryz.sizeOf0
 v0:=Tryz.zeroValue0
 t3:=Tryz.underlying3
 a3:=Tryz.isAgg3
 z3:=Tryz.sizeOf3
 v3:=Tryz.zeroValue3
 t4:=Tryz.underlying4
 a4:=Tryz.isAgg4
 z4:=Tryz.sizeOf4
 v4:=Tryz.zeroValue4
 t9:=Tryz.underlying9
 a9:=Tryz.isAgg9
 z9:=Tryz.sizeOf9
 v9:=Tryz.zeroValue9
 t20:=Tryz.underlying20
 a20:=Tryz.isAgg20
 z20:=Tryz.sizeOf20
 v20:=Tryz.zeroValue20
 t31:=Tryz.underlying72
 a31:=Tryz.isAgg72
 z31:=Tryz.sizeOf72
 v31:=Tryz.zeroValue72
 t37:=Tryz.underlying22
 a37:=Tryz.isAgg22
 z37:=Tryz.sizeOf22
 v37:=Tryz.zeroValue22
 t70:=Tryz.underlying102
 a70:=Tryz.isAgg102
 z70:=Tryz.sizeOf102
 v70:=Tryz.zeroValue102
 t72:=Tryz.underlying104
 a72:=Tryz.isAgg104
 z72:=Tryz.sizeOf104
 v72:=Tryz.zeroValue104
 t75:=Tryz.underlying107
 a75:=Tryz.isAgg107
 z75:=Tryz.sizeOf107
 v75:=Tryz.zeroValue107
 t76:=Tryz.underlying108
 a76:=Tryz.isAgg108
 z76:=Tryz.sizeOf108
 v76:=Tryz.zeroValue108
 t127:=Tryz.underlying138
 a127:=Tryz.isAgg138
 z127:=Tryz.sizeOf138
 v127:=Tryz.zeroValue138
 t164:=Tryz.underlying173
 a164:=Tryz.isAgg173
 z164:=Tryz.sizeOf173
 v164:=Tryz.zeroValue173}
def layItoa_ren:Go.Shelf.Ren:=⟨fun|171=>117|243=>182|246=>264|283=>318|284=>319|285=>320|286=>321|129=>342|317=>341|318=>343|319=>344|320=>345|337=>350|338=>351|n=>n,fun|3=>3|9=>9|2=>2|4=>4|171=>188|0=>0|53=>189|37=>22|5=>5|173=>192|212=>200|51=>201|20=>20|213=>202|46=>141|232=>212|233=>213|n=>n,fun|17=>1|18=>4|19=>5|n=>n⟩
theorem layItoa:Go.Proofs.Lays.n171 Tryz.prog layItoa_ren:= {
 mixed:=by kernel_rfl
 f129:=Tryz.func342.trans (congrArg some (by kernel_rfl))
 f171:=Tryz.func117.trans (congrArg some (by kernel_rfl))
 f243:=Tryz.func182.trans (congrArg some (by kernel_rfl))
 f246:=Tryz.func264.trans (congrArg some (by kernel_rfl))
 f283:=Tryz.func318.trans (congrArg some (by kernel_rfl))
 f284:=Tryz.func319.trans (congrArg some (by kernel_rfl))
 f285:=Tryz.func320.trans (congrArg some (by kernel_rfl))
 f286:=Tryz.func321.trans (congrArg some (by kernel_rfl))
 f317:=Tryz.func341.trans (congrArg some (by kernel_rfl))
 f318:=Tryz.func343.trans (congrArg some (by kernel_rfl))
 f319:=Tryz.func344.trans (congrArg some (by kernel_rfl))
 f320:=Tryz.func345.trans (congrArg some (by kernel_rfl))
 f337:=Tryz.func350.trans (congrArg some (by kernel_rfl))
 f338:=Tryz.func351.trans (congrArg some (by kernel_rfl))
 t0:=Tryz.underlying0
 a0:=Tryz.isAgg0
 z0:=Tryz.sizeOf0
 v0:=Tryz.zeroValue0
 t2:=Tryz.underlying2
 a2:=Tryz.isAgg2
 z2:=Tryz.sizeOf2
 v2:=Tryz.zeroValue2
 t3:=Tryz.underlying3
 a3:=Tryz.isAgg3
 z3:=Tryz.sizeOf3
 v3:=Tryz.zeroValue3
 t4:=Tryz.underlying4
 a4:=Tryz.isAgg4
 z4:=Tryz.sizeOf4
 v4:=Tryz.zeroValue4
 t5:=Tryz.underlying5
 a5:=Tryz.isAgg5
 z5:=Tryz.sizeOf5
 v5:=Tryz.zeroValue5
 t9:=Tryz.underlying9
 a9:=Tryz.isAgg9
 z9:=Tryz.sizeOf9
 v9:=Tryz.zeroValue9
 t20:=Tryz.underlying20
 a20:=Tryz.isAgg20
 z20:=Tryz.sizeOf20
 v20:=Tryz.zeroValue20
 t37:=Tryz.underlying22
 a37:=Tryz.isAgg22
 z37:=Tryz.sizeOf22
 v37:=Tryz.zeroValue22
 t46:=Tryz.underlying141
 a46:=Tryz.isAgg141
 z46:=Tryz.sizeOf141
 v46:=Tryz.zeroValue141
 t51:=Tryz.underlying201
 a51:=Tryz.isAgg201
 z51:=Tryz.sizeOf201
 v51:=Tryz.zeroValue201
 t53:=Tryz.underlying189
 a53:=Tryz.isAgg189
 z53:=Tryz.sizeOf189
 v53:=Tryz.zeroValue189
 t171:=Tryz.underlying188
 a171:=Tryz.isAgg188
 z171:=Tryz.sizeOf188
 v171:=Tryz.zeroValue188
 t173:=Tryz.underlying192
 a173:=Tryz.isAgg192
 z173:=Tryz.sizeOf192
 v173:=Tryz.zeroValue192
 t212:=Tryz.underlying200
 a212:=Tryz.isAgg200
 z212:=Tryz.sizeOf200
 v212:=Tryz.zeroValue200
 t213:=Tryz.underlying202
 a213:=Tryz.isAgg202
 z213:=Tryz.sizeOf202
 t232:=Tryz.underlying212
 a232:=Tryz.isAgg212
 z232:=Tryz.sizeOf212
 v232:=Tryz.zeroValue212
 t233:=Tryz.underlying213
 a233:=Tryz.isAgg213
 z233:=Tryz.sizeOf213
 v233:=Tryz.zeroValue213
 g17:=by kernel_rfl
 g18:=by kernel_rfl
 g19:=by kernel_rfl}
theorem layExtra:Builder.Extra Tryz.prog layJoin_ren:= {
 sizeBuilder:=by kernel_rfl
 liesBuilder:=by kernel_rfl
 t5:=Tryz.underlying5
 a5:=Tryz.isAgg5
 z5:=Tryz.sizeOf5
 v5:=Tryz.zeroValue5
 infoByte:=by kernel_rfl
 cellsByte:=by kernel_rfl
 sizeByte:=by kernel_rfl
 neB5:=by decide}
theorem itoa_small (i:Nat) (hi:i<100) (w:World):
 Calls Tryz.prog 117 #[.int .i64 i] w fun e w'=>e=.returned (.string ⟨(Lib.decDigits i).toArray⟩)/\w'=w:=Any.strconv_Itoa_small layItoa i hi w
theorem join_any (bk o c:Nat) (xs:List ByteArray) (sep:ByteArray) (w:World)
 (hcells: ∀(j:Nat) x,xs[j]? =some x->w.cell? ⟨bk,o+j,none⟩=some (.string x))
 (hbk:bk<w.heap.size) (hN:xs.length<=140737488355328) (hcap:xs.length<=c)
 (hlen:(Lib.join (xs.map (·.data.toList)) sep.data.toList).length<=140737488355328):
 Calls Tryz.prog 62 #[.slice (some ⟨bk,o,none⟩) xs.length c,.string sep] w fun e w'=>e=.returned (.string ⟨(Lib.join (xs.map (·.data.toList)) sep.data.toList).toArray⟩)/\Below w.heap.size w w':=Any.strings_Join layJoin layExtra bk o c xs sep w hcells hbk hN hcap hlen
open Go.RowKit
set_option maxHeartbeats 1000000
def nmL:List ByteArray:= [⟨#[99,104,111,114,100,97,108]⟩,⟨#[105,110,116,101,114,118,97,108]⟩,⟨#[112,114,111,112,101,114]⟩,⟨#[99,111,103,114,97,112,104]⟩,⟨#[115,112,108,105,116]⟩,⟨#[116,104,114,101,115,104,111,108,100]⟩,⟨#[98,105,112,97,114,116,105,116,101]⟩,⟨#[115,116,114,111,110,103]⟩,⟨#[112,101,114,102,101,99,116]⟩]
def nm (j:Nat):ByteArray:=nmL.getD j ⟨#[]⟩
theorem nm_own (w:World):Own (w.alloc (Obj.cells #[.string ⟨#[99,104,111,114,100,97,108]⟩,.string ⟨#[105,110,116,101,114,118,97,108]⟩,.string ⟨#[112,114,111,112,101,114]⟩,.string ⟨#[99,111,103,114,97,112,104]⟩,.string ⟨#[115,112,108,105,116]⟩,.string ⟨#[116,104,114,101,115,104,111,108,100]⟩,.string ⟨#[98,105,112,97,114,116,105,116,101]⟩,.string ⟨#[115,116,114,111,110,103]⟩,.string ⟨#[112,101,114,102,101,99,116]⟩] 9)) w.heap.size (w.heap.size+1) 9 1 (some ⟨w.heap.size,0,none⟩) 9 9 (strs nm):=
 .inr ⟨w.heap.size,_,rfl,nr_,Nat.lt_succ_self _,heap_alloc_new w _,nr_,by unfold maxLen;omega,rfl,fun j hj=>by
  have hc:j=0\/j=1\/j=2\/j=3\/j=4\/j=5\/j=6\/j=7\/j=8:=by omega
  rcases hc with rfl|rfl|rfl|rfl|rfl|rfl|rfl|rfl|rfl<;>rfl⟩
set_option maxRecDepth 100000 in
theorem ClassNames_sv (w:World):Calls Tryz.prog 71 #[] w fun e w'=> ∃A c,e=.returned (.slice A 9 c)/\Own w' w.heap.size w'.heap.size 9 1 A 9 c (strs nm)/\Below w.heap.size w w':=by
 have H:=hh_ (nm_own w);go_enter Tryz.func71,Tryz.ntmps71;go_wp2;go_ret;exact⟨_,9,rfl,H.mono nr_ (by simp),br_.alloc nr_ _⟩
def stL (l:List ByteArray) (j:Nat):Value:=.string (l.getD j ⟨#[]⟩)
theorem stL_left {l:List ByteArray} {k:ByteArray} {j:Nat} (h:j<l.length):stL (l++ [k]) j=stL l j:=by
 unfold stL;simp[List.getD,List.getElem?_append_left h]
theorem stL_news {l:List ByteArray} {k:ByteArray}: ∀i,i<1->(#[.string k]:Array Value)[i]? =some (stL (l++ [k]) (l.length*1+i)):=by
 intro i hi;have h0:i=0:=by omega
 subst h0;unfold stL;simp[List.getD]
theorem FormatInt_iv (v:Int) (hv:vxB v=true) (w:World):Calls Tryz.prog 61 #[.int .i64 v] w fun e w'=>e=.returned (.string (dvB v))/\w'=w:=by
 obtain⟨h0,h1⟩:=vxB_yes hv;obtain⟨d,rfl⟩: ∃d:Nat,v=d:=⟨v.toNat,by omega⟩;have K:=hh_ (itoa_small d (by omega) w);have HE:Hid ((⟨(Lib.decDigits d).toArray⟩:ByteArray)=dvB (d:Int)):=by
  show _=_;rw[Lib.decDigits_one (by omega)];rfl
 clear hv h0 h1;go_enter Tryz.func61,Tryz.ntmps61;go_wp2_with fail
 refine K.mono ?_;rintro e w1 ⟨rfl,rfl⟩;rw[HE.out];go_wp2;go_ret;exact⟨rfl,rfl⟩
def fmW (a:Nat->Bool) (v u:Nat->Int) (j:Nat):ByteArray:=sgn (a j)++dvB (v j)++dvB (u j)
def fmL (a:Nat->Bool) (v u:Nat->Int) (k:Nat):List ByteArray:=(List.range k).map (fmW a v u)
theorem fmL_succ (a:Nat->Bool) (v u:Nat->Int) (k:Nat):fmL a v u (k+1)=fmL a v u k++ [fmW a v u k]:=by
 unfold fmL;rw[List.range_succ,List.map_append];rfl
theorem fmL_len (a:Nat->Bool) (v u:Nat->Int) (k:Nat):(fmL a v u k).length=k:=by unfold fmL;simp
theorem fmJ_join (a:Nat->Bool) (v u:Nat->Int): ∀k,Lib.join ((fmL a v u k).map (·.data.toList)) [44]=(fmJ a v u k).data.toList
 |0=>rfl
 |k+1=>by
  have ih:=fmJ_join a v u k
  rw[fmL_succ,List.map_append]
  by_cases h:k=0
  ·subst h
   rw[fmJ_one a v u rfl]
   show Lib.join ([]++ [(fmW a v u 0).data.toList]) [44]=_
   rw[List.nil_append,Lib.join_one]
   unfold fmW
   simp only[dataApp]
   rfl
  ·rw[fmJ_more a v u h]
   show Lib.join (_++ [(fmW a v u k).data.toList]) [44]=_
   rw[join_snoc _ _ _ (fun e=>h (by have:=congrArg List.length e;rw[List.length_map,fmL_len] at this;exact this)),ih]
   unfold fmW
   simp only[dataApp,List.append_assoc]
set_option maxHeartbeats 3200000
theorem stL_own0 (w:World):Own (w.alloc (Obj.cells #[] 9)) w.heap.size (w.alloc (Obj.cells #[] 9)).heap.size 9 1 (some ⟨w.heap.size,0,none⟩) 0 0 (stL []):=
 .inr ⟨w.heap.size,#[],rfl,nr_,by simp,heap_alloc_new w _,nr_,by unfold maxLen;omega,rfl,fun j hj=>absurd hj (by omega)⟩
set_option maxRecDepth 100000 in
theorem FormatEdits_i (A:Option Addr) (n c:Nat) (a:Nat->Bool) (v u:Nat->Int) (w:World) (h:RE w A n c a v u) (hn:n<=1048577):
 Calls Tryz.prog 23 #[.slice A n c] w fun e w'=>e=.returned (.string (fmO n a v u))/\Below w.heap.size w w':=by
 have HL:=hh_ h;have hn0:(0:Int)<=n:=by omega
 by_cases hm:12<n
 ·have i2:(12:Int)<n:=by omega
  have Ho:Hid (fmO n a v u=⟨#[]⟩):=fmO_many hm;clear h;go_enter Tryz.func23,Tryz.ntmps23;go_wp2;go_ret;exact⟨by rw[Ho.out];rfl,br_⟩
 have i2:(n:Int)<=12:=by omega
 have KC:=hh_ (ContainsFunc_e A n c a v u w h.rd hn);clear h;obtain⟨q,hq⟩: ∃q,q=exP v u n:=⟨_,rfl⟩;by_cases hp:0<=q
 ·have Ho:Hid (fmO n a v u=⟨#[]⟩):=by unfold fmO;rw[hq] at hp;exact if_pos (.inr hp)
  rw[<-hq,show decide (0<=q)=true from decide_eq_true hp] at KC;clear hq hp;go_enter Tryz.func23,Tryz.ntmps23;go_wp2_with fail
  refine KC.mono ?_;rintro e w1 ⟨rfl,hb1⟩;have HB1:=hh_ hb1;clear hb1;go_wp2;go_ret;exact⟨by rw[Ho.out];rfl,HB1⟩
 have Hall:=hh_ (exP_all (v:=v) (u:=u) (n:=n) (by omega));rw[<-hq,show decide (0<=q)=false from decide_eq_false hp] at KC;clear hq hp;go_enter Tryz.func23,Tryz.ntmps23;go_wp2_with fail
 refine KC.mono ?_;rintro e w1 ⟨rfl,hb1⟩;have HB1:Hid (From w w1):=⟨hb1⟩;have hz1:=hb1.size;clear hb1 KC;go_wp2;go_loopw [3,17] (fun l i wr=> ∃(k:Nat) (A':Option Addr) (c':Nat),k<=n/\i=.int .i64 k/\l=.slice A' k c'/\Hid (Own wr w1.heap.size wr.heap.size 9 1 A' k c' (stL (fmL a v u k)))/\Hid (Below w1.heap.size w1 wr)) (fun _ i _=>n-(intOf i).toNat);case atStart=>exact⟨0,_,0,Nat.zero_le _,rfl,rfl,stL_own0 w1,br_.alloc nr_ _⟩
 case round=>
  obtain⟨k,A',c',hk,rfl,rfl,HO,HB⟩:=hrel;by_cases hlt:k<n
  ·have i1:(k:Int)<n:=by omega
   have HBr:Hid (Below w.heap.size w wr):=HB1.below.trans (HB.mono hz1);have HR:Hid (RE wr A n c a v u):=HL.keep HBr.out;obtain⟨b,o,rfl,hb,hc⟩:=HR.rd.2 (by omega);obtain⟨q0,q1,q2⟩:=hc k hlt;obtain⟨hv,hu⟩:=exB_two (Hall.out k hlt);have FV:=hh_ (FormatInt_iv (v k) hv);have FU:=hh_ (FormatInt_iv (u k) hu);have hzr:=HB.size;obtain⟨T,hT⟩: ∃T,T=fmL a v u k:=⟨_,rfl⟩;have HT:Hid (fmL a v u (k+1)=T++ [sgn (a k)++dvB (v k)++dvB (u k)]):=by rw[hT];exact fmL_succ a v u k
   have hTl:Hid (T.length=k):=by show _=_;rw[hT];exact fmL_len a v u k
   rw[<-hT] at HO;clear hT hv hu hc HR;obtain⟨x,hx⟩: ∃x,x=a k:=⟨_,rfl⟩;obtain⟨y,hy⟩: ∃y,y=v k:=⟨_,rfl⟩;obtain⟨t,ht⟩: ∃t,t=u k:=⟨_,rfl⟩;rw[<-hx] at q0;rw[<-hy] at q1 FV;rw[<-ht] at q2 FU;rw[<-hx,<-hy,<-ht] at HT;clear hx hy ht;have hsy:=dvB_size y;have hst:=dvB_size t;obtain⟨D1,hD1⟩: ∃D,D=dvB y:=⟨_,rfl⟩;obtain⟨D2,hD2⟩: ∃D,D=dvB t:=⟨_,rfl⟩;rw[<-hD1] at hsy FV HT;rw[<-hD2] at hst FU HT;clear hD1 hD2;cases x
   ·go_wp2;obtain⟨W5,hW5⟩: ∃W5,W5=wr.alloc (Obj.cells #[.bool false,.int .i64 y,.int .i64 t] 48):=⟨_,rfl⟩;obtain⟨G,hG⟩: ∃G:ByteArray,G=(⟨#[45]⟩:ByteArray):=⟨_,rfl⟩;have hsg:G.size=1:=by rw[hG];rfl
    have HT1:Hid (fmL a v u (k+1)=T++ [G++D1++D2]):=by rw[hG];exact HT.out
    have HO5:Hid (Own W5 w1.heap.size W5.heap.size 9 1 A' k c' (stL T)):=by rw[hW5];exact(HO.alloc _).mono nr_ (by simp)
    have HB5:Hid (Below w1.heap.size w1 W5):=by rw[hW5];exact HB.alloc hzr _
    have hz5:=HB5.size;have m1:W5.drew.cell? ⟨wr.heap.size,1,none⟩=some (.int .i64 y):=by rw[hW5];simp[go_sem]
    have m2:W5.drew.cell? ⟨wr.heap.size,2,none⟩=some (.int .i64 t):=by rw[hW5];simp[go_sem]
    rw[<-hW5,<-hG];have h7: ¬9223372036854775807<G.size+D1.size:=by omega
    have h14: ¬9223372036854775807<G.size+D1.size+D2.size:=by omega
    have HP:Hid (Own ((W5.alloc (Obj.cells #[.string (G++D1++D2)] 9)).drew) w1.heap.size W5.heap.size 9 1 A' k c' (stL (T++ [G++D1++D2]))):=((HO5.alloc _).drew).congr (fun j hj=>(stL_left (by rw[hTl.out];omega)).symm);have HXn:Hid (∀i,i<1->(#[.string (G++D1++D2)]:Array Value)[i]? =some (stL (T++ [G++D1++D2]) (k*1+i))):=by rw[<-hTl.out];exact stL_news
    clear hG hW5 hsg hsy hst HT HO HB q0 q1 q2 HO5;go_region_law
     (first
       |(go_simp;go_at_call 61;refine(FV.out _).mono ?_;rintro e w2 ⟨rfl,rfl⟩)
       |(go_simp;go_at_call 61;refine(FU.out _).mono ?_;rintro e w2 ⟨rfl,rfl⟩)
       |(refine step_push _ (by rfl) _ _ _ (by rfl) 9 _ 1 16 Tryz.underlying72 info_string rfl (by omega) w1.heap.size _ A' k c' (stL (T++ [G++D1++D2])) (by rfl) HP.out (by simp;omega) W5.heap.size #[.string (G++D1++D2)] 9 (0,0) 1 (heap_alloc_new W5 _) (by rfl) rfl HXn.out (by simp[Value.oneCell']) (by omega) (by omega) ?_;intro g6 cap w6 hp))
    all_goals
     have HO6:Hid (Own w6 w1.heap.size w6.heap.size 9 1 (some ⟨g6,0,none⟩) (k+1) cap (stL (fmL a v u (k+1)))):=by rw[HT1.out];exact hp.own
     have HB6:Hid (Below w1.heap.size w1 w6):=((HB5.alloc hz5 _).drew).trans hp.below;clear hp HP HXn HB5 m1 m2 h7 h14;go_wp2;go_roundw;case rel=>exact⟨k+1,_,_,by omega,by go_num,rfl,HO6,HB6⟩
     case measure=>simp[intOf]<;>omega
   ·go_wp2;obtain⟨W5,hW5⟩: ∃W5,W5=wr.alloc (Obj.cells #[.bool true,.int .i64 y,.int .i64 t] 48):=⟨_,rfl⟩;obtain⟨G,hG⟩: ∃G:ByteArray,G=(⟨#[43]⟩:ByteArray):=⟨_,rfl⟩;have hsg:G.size=1:=by rw[hG];rfl
    have HT1:Hid (fmL a v u (k+1)=T++ [G++D1++D2]):=by rw[hG];exact HT.out
    have HO5:Hid (Own W5 w1.heap.size W5.heap.size 9 1 A' k c' (stL T)):=by rw[hW5];exact(HO.alloc _).mono nr_ (by simp)
    have HB5:Hid (Below w1.heap.size w1 W5):=by rw[hW5];exact HB.alloc hzr _
    have hz5:=HB5.size;have m1:W5.drew.cell? ⟨wr.heap.size,1,none⟩=some (.int .i64 y):=by rw[hW5];simp[go_sem]
    have m2:W5.drew.cell? ⟨wr.heap.size,2,none⟩=some (.int .i64 t):=by rw[hW5];simp[go_sem]
    rw[<-hW5,<-hG];have h7: ¬9223372036854775807<G.size+D1.size:=by omega
    have h14: ¬9223372036854775807<G.size+D1.size+D2.size:=by omega
    have HP:Hid (Own ((W5.alloc (Obj.cells #[.string (G++D1++D2)] 9)).drew) w1.heap.size W5.heap.size 9 1 A' k c' (stL (T++ [G++D1++D2]))):=((HO5.alloc _).drew).congr (fun j hj=>(stL_left (by rw[hTl.out];omega)).symm);have HXn:Hid (∀i,i<1->(#[.string (G++D1++D2)]:Array Value)[i]? =some (stL (T++ [G++D1++D2]) (k*1+i))):=by rw[<-hTl.out];exact stL_news
    clear hG hW5 hsg hsy hst HT HO HB q0 q1 q2 HO5;go_region_law
     (first
       |(go_simp;go_at_call 61;refine(FV.out _).mono ?_;rintro e w2 ⟨rfl,rfl⟩)
       |(go_simp;go_at_call 61;refine(FU.out _).mono ?_;rintro e w2 ⟨rfl,rfl⟩)
       |(refine step_push _ (by rfl) _ _ _ (by rfl) 9 _ 1 16 Tryz.underlying72 info_string rfl (by omega) w1.heap.size _ A' k c' (stL (T++ [G++D1++D2])) (by rfl) HP.out (by simp;omega) W5.heap.size #[.string (G++D1++D2)] 9 (0,0) 1 (heap_alloc_new W5 _) (by rfl) rfl HXn.out (by simp[Value.oneCell']) (by omega) (by omega) ?_;intro g6 cap w6 hp))
    all_goals
     have HO6:Hid (Own w6 w1.heap.size w6.heap.size 9 1 (some ⟨g6,0,none⟩) (k+1) cap (stL (fmL a v u (k+1)))):=by rw[HT1.out];exact hp.own
     have HB6:Hid (Below w1.heap.size w1 w6):=((HB5.alloc hz5 _).drew).trans hp.below;clear hp HP HXn HB5 m1 m2 h7 h14;go_wp2;go_roundw;case rel=>exact⟨k+1,_,_,by omega,by go_num,rfl,HO6,HB6⟩
     case measure=>simp[intOf]<;>omega
  ·have i1:(n:Int)<=k:=by omega
   obtain rfl:k=n:=by omega
   have HBr:Hid (Below w.heap.size w wr):=HB1.below.trans (HB.mono hz1);by_cases h0:k=0
   ·have Ho:Hid (fmO k a v u=⟨#[110,111,110,101]⟩):=by rw[h0];exact fmO_none
    have h0':(k:Int)=0:=by omega
    clear HO;go_wp2;go_ret;exact⟨by rw[Ho.out];rfl,HBr.out⟩
   ·have Ho:Hid (fmO k a v u=fmJ a v u k):=fmO_yes (by omega) (by omega) Hall.out;obtain⟨g3,rfl,_,hg3,_,hc3,_⟩:=HO.at_ (by omega);have hle:=HO.le;have KJ:Hid (Calls Tryz.prog 62 #[.slice (some ⟨g3,0,none⟩) k c',.string ⟨#[44]⟩] wr fun e w'=>e=.returned (.string (fmJ a v u k))/\Below wr.heap.size wr w'):=by
     have hl:=fmL_len a v u k;have hJ:=fmJ_join a v u k;have hs:=fmJ_size a v u k;have K:=join_any g3 0 c' (fmL a v u k) ⟨#[44]⟩ wr (fun j x hx=>by
      obtain⟨hj,hx2⟩:=List.getElem?_eq_some_iff.1 hx;rw[Nat.zero_add,hc3 j (by rw[<-hl];omega)];unfold stL;simp[List.getD,hx]) hg3 (by omega) (by omega) (by
       show (Lib.join ((fmL a v u k).map (·.data.toList)) [44]).length<=_;rw[hJ];have:(fmJ a v u k).data.toList.length=(fmJ a v u k).size:=by simp
       omega)
     rw[hl] at K;refine K.mono fun e w' ⟨he,hb⟩=>⟨?_,hb⟩
     rw[he];show Ending.returned (.string ⟨(Lib.join ((fmL a v u k).map (·.data.toList)) [44]).toArray⟩)=_;rw[hJ]
    have hk0:((k:Int)==0)=false:=by simp;omega
    clear HO hc3;go_wp2_with fail
    refine KJ.mono ?_;rintro e w2 ⟨rfl,hb2⟩;have HB2:Hid (Below w.heap.size w w2):=HBr.trans (hb2.mono HBr.size);clear hb2;go_wp2;go_ret;exact⟨by rw[Ho.out];rfl,HB2⟩
set_option maxHeartbeats 3200000
theorem ext_one {s:ByteArray} {k:Nat} (h:k<s.size):(s.extract k (k+1)).data.toList= [s[k]]:=by
 rw[ByteArray.data_extract,Array.toList_extract];have h2:k<s.data.toList.length:=by simpa using h
 simp only[List.extract_eq_take_drop,Nat.add_sub_cancel_left];rw[List.drop_eq_getElem_cons h2];rfl
set_option maxRecDepth 100000 in
theorem l2Cut_s (s:ByteArray) (w:World) (hs:s.size<=1048576):
 Calls Tryz.prog 67 #[.string s,.int .u8 44] w fun e w'=> ∃(D:List ByteArray) (A':Option Addr) (c':Nat),D.map (·.data.toList)=cutA 44 [] s.data.toList/\e=.returned (.slice A' D.length c')/\Own w' w.heap.size w'.heap.size 9 1 A' D.length c' (stL D)/\Below w.heap.size w w':=by
 go_enter Tryz.func67,Tryz.ntmps67;go_wp2;go_loopw [5,6,7] (fun o p i wr=> ∃(k:Nat) (P:ByteArray) (D:List ByteArray) (A':Option Addr) (c':Nat),k<=s.size/\i=.int .i64 k/\p=.string P/\o=.slice A' D.length c'/\P.size<=k/\D.length<=k/\Hid (D.map (·.data.toList)++cutA 44 P.data.toList (s.data.toList.drop k)=cutA 44 [] s.data.toList)/\Hid (Own wr w.heap.size wr.heap.size 9 1 A' D.length c' (stL D))/\Hid (Below w.heap.size w wr)) (fun _ _ i _=>s.size-(intOf i).toNat);case atStart=>exact⟨0,_,[],_,0,Nat.zero_le _,rfl,rfl,rfl,nr_,nr_,rfl,stL_own0 w,br_.alloc nr_ _⟩
 case round=>
  obtain⟨k,P,D,A',c',hk,rfl,rfl,rfl,hP,hDk,HC,HO,HB⟩:=hrel;by_cases hlt:k<s.size
  ·have i1:(k:Int)<s.size:=by omega
   have Hdrop:Hid (s.data.toList.drop k=s[k]::s.data.toList.drop (k+1)):=List.drop_eq_getElem_cons (by simpa using hlt);by_cases hb:s[k]=44
   ·have hbx:((s[k].toNat:Int)==44)=true:=by rw[hb];rfl
    have HC2:Hid ((D++ [P]).map (·.data.toList)++cutA 44 [] (s.data.toList.drop (k+1))=cutA 44 [] s.data.toList):=by
     show _=_;rw[<-HC.out,Hdrop.out,List.map_append,List.append_assoc];congr 1;conv=>rhs;unfold cutA
     rw[if_pos hb];rfl
    have HP:Hid (Own (wr.alloc (Obj.cells #[.string P] 9)) w.heap.size wr.heap.size 9 1 A' D.length c' (stL (D++ [P]))):=(HO.alloc _).congr (fun j hj=>(stL_left (by omega)).symm);have hzr:=HB.size;clear HC HO hb;go_wp2_with (first|(at_builtin;(refine wpList_push (wr.alloc (Obj.cells #[.string P] 9)) rfl _ _ _ rfl 9 _ 1 16 Tryz.underlying72 info_string rfl (by omega) w.heap.size _ A' D.length c' (stL (D++ [P])) rfl HP.out (by simp;omega) wr.heap.size #[.string P] 9 (0,0) 1 (heap_alloc_new wr _) rfl rfl stL_news (by simp[Value.oneCell']) (by omega) (by omega) ?_;intro g3 c3 w3 hp)))
    have HO3:Hid (Own w3 w.heap.size w3.heap.size 9 1 (some ⟨g3,0,none⟩) (D++ [P]).length c3 (stL (D++ [P]))):=by show Own _ _ _ _ _ _ _ _ _;rw[List.length_append];exact hp.own
    have HB3:Hid (Below w.heap.size w w3):=(HB.alloc hzr _).trans hp.below;clear hp HP;go_roundw;case rel=>exact⟨k+1,_,D++ [P],_,c3,by omega,by go_num,rfl,by rw[List.length_append];rfl,Nat.zero_le _,by rw[List.length_append,List.length_singleton];omega,HC2,HO3,HB3⟩
    case measure=>simp[intOf]<;>omega
   ·have hbx:((s[k].toNat:Int)==44)=false:=by
     rw[beq_eq_false_iff_ne];intro h;refine hb (UInt8.toNat_inj.1 ?_);show _=44;omega
    have he:(s.extract k (k+1)).size=1:=by simp[ByteArray.size_extract];omega
    have HC2:Hid (D.map (·.data.toList)++cutA 44 (P++s.extract k (k+1)).data.toList (s.data.toList.drop (k+1))=cutA 44 [] s.data.toList):=by
     show _=_;rw[<-HC.out,Hdrop.out];congr 1;conv=>rhs;unfold cutA
     rw[if_neg hb,dataApp];rw[ext_one hlt]
    have hsz: ¬9223372036854775807<P.size+(s.extract k (k+1)).size:=by omega
    have Hsz:Hid ((P++s.extract k (k+1)).size<=k+1):=by show _<=_;rw[ByteArray.size_append];omega
    clear HC hb;go_wp2;go_roundw;case rel=>exact⟨k+1,_,D,A',c',by omega,by go_num,rfl,rfl,Hsz.out,by omega,HC2,HO,HB⟩
    case measure=>simp[intOf]<;>omega
  ·obtain rfl:k=s.size:=by omega
   have HC2:Hid ((D++ [P]).map (·.data.toList)=cutA 44 [] s.data.toList):=by
    show _=_;rw[<-HC.out,List.map_append,List.drop_eq_nil_of_le (by simp)];rfl
   have HP:Hid (Own (wr.alloc (Obj.cells #[.string P] 9)) w.heap.size wr.heap.size 9 1 A' D.length c' (stL (D++ [P]))):=(HO.alloc _).congr (fun j hj=>(stL_left (by omega)).symm);have hzr:=HB.size;clear HC HO;go_wp2_with (first|(at_builtin;(refine wpList_push (wr.alloc (Obj.cells #[.string P] 9)) rfl _ _ _ rfl 9 _ 1 16 Tryz.underlying72 info_string rfl (by omega) w.heap.size _ A' D.length c' (stL (D++ [P])) rfl HP.out (by simp;omega) wr.heap.size #[.string P] 9 (0,0) 1 (heap_alloc_new wr _) rfl rfl stL_news (by simp[Value.oneCell']) (by omega) (by omega) ?_;intro g3 c3 w3 hp)))
   have HO3:Hid (Own w3 w.heap.size w3.heap.size 9 1 (some ⟨g3,0,none⟩) (D++ [P]).length c3 (stL (D++ [P]))):=by show Own _ _ _ _ _ _ _ _ _;rw[List.length_append];exact hp.own
   have HB3:Hid (Below w.heap.size w w3):=(HB.alloc hzr _).trans hp.below;clear hp HP;go_ret;exact⟨D++ [P],_,c3,HC2,by rw[List.length_append];rfl,HO3.out,HB3⟩
end Go.Proofs.YtfabbohijhjpcaaGreatDoor
