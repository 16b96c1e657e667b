/- Lemmas. -/
import Derived.Test.YtfabbohijhjpcaaGreatDoorRbCutS
import Derived.Shelf.Strings.Split
import Derived.Lib.SplitLaws
/-
-/
namespace Go.Proofs.YtfabbohijhjpcaaGreatDoor
open Go.RowKit
theorem cutA_length (c:UInt8): ∀(l p:List UInt8),(cutA c p l).length<=l.length+1
 | [],p=>by unfold cutA;simp
 |b::l,p=>by
  unfold cutA
  split
  ·have:=cutA_length c l []
   simp only[List.length_cons];omega
  ·have:=cutA_length c l (p++ [b])
   simp only[List.length_cons];omega
theorem cutA_none (c:UInt8): ∀(x p:List UInt8),¬c∈x->cutA c p x= [p++x]
 | [],p,_=>by unfold cutA;simp
 |b::x,p,h=>by
  have hb:b≠c:=fun e=>h (by rw[e];simp)
  unfold cutA
  rw[if_neg hb,cutA_none c x _ (fun hm=>h (by simp[hm]))]
  simp
theorem cutA_step (c:UInt8) (rest:List UInt8): ∀(x p:List UInt8),¬c∈x->cutA c p (x++c::rest)=(p++x)::cutA c [] rest
 | [],p,_=>by
   conv=>lhs;unfold cutA
   simp
 |b::x,p,h=>by
  have hb:b≠c:=fun e=>h (by rw[e];simp)
  conv=>lhs;unfold cutA
  rw[List.cons_append]
  show (if b=c then _ else _)=_
  rw[if_neg hb,cutA_step c rest x _ (fun hm=>h (by simp[hm]))]
  simp
theorem cutA_join (c:UInt8): ∀(r:List (List UInt8)) (x p:List UInt8),¬c∈x->(∀y∈r,¬c∈y)->cutA c p (x++Lib.joinTail [c] r)=(p++x)::r
 | [],x,p,h,_=>by
   simp only[Lib.joinTail,List.map_nil,List.flatten_nil,List.append_nil]
   exact cutA_none c x p h
 |y::r,x,p,h,hr=>by
  have e:x++Lib.joinTail [c] (y::r)=x++c::(y++Lib.joinTail [c] r):=by simp[Lib.joinTail]
  rw[e,cutA_step c _ x p h,cutA_join c r y [] (hr y (by simp)) (fun z hz=>hr z (by simp[hz]))]
  rfl
def peW (s:ByteArray):List (List UInt8):=cutA 44 [] s.data.toList
def peA (s:ByteArray) (j:Nat):Bool:=((peW s).getD j []).getD 0 0==43
def peV (s:ByteArray) (j:Nat):Int:=((((peW s).getD j []).getD 1 0).toNat:Int)-48
def peU (s:ByteArray) (j:Nat):Int:=((((peW s).getD j []).getD 2 0).toNat:Int)-48
def peOk (s:ByteArray):Prop:=(∀x∈peW s,x.length=3)/\fmO (peW s).length (peA s) (peV s) (peU s)=s
theorem peW_pos (s:ByteArray):0<(peW s).length:=List.length_pos_iff.2 (cutA_some _ _ _)
theorem peOk_long {s:ByteArray} (h:60<s.size): ¬peOk s:=fun ⟨_,e⟩=>by
 have:=fmO_size (n:=(peW s).length) (a:=peA s) (v:=peV s) (u:=peU s)
 rw[e] at this;omega
theorem fmW_list (a:Nat->Bool) (v u:Nat->Int) (j:Nat):(fmW a v u j).data.toList= [if a j then 43 else 45,UInt8.ofNat (48+(v j).toNat),UInt8.ofNat (48+(u j).toNat)]:=by
 unfold fmW sgn;cases a j<;>simp[dvB,dgB]
theorem fmW_comma {a:Nat->Bool} {v u:Nat->Int} {j:Nat} (h:exB (v j) (u j)=true): ¬(44:UInt8)∈(fmW a v u j).data.toList:=by
 obtain⟨h1,h2⟩:=exB_two h;obtain⟨a1,a2⟩:=vxB_yes h1;obtain⟨b1,b2⟩:=vxB_yes h2;rw[fmW_list];have d: ∀x:Int,0<=x->x<=6->(44:UInt8)≠UInt8.ofNat (48+x.toNat):=by
  intro x h0 h6;have hc:x.toNat=0\/x.toNat=1\/x.toNat=2\/x.toNat=3\/x.toNat=4\/x.toNat=5\/x.toNat=6:=by omega
  rcases hc with h|h|h|h|h|h|h<;>rw[h]<;>decide
 simp only[List.mem_cons,List.not_mem_nil,or_false,not_or];refine⟨by cases a j<;>decide,d _ a1 a2,d _ b1 b2⟩
theorem peOk_words {s:ByteArray} (h:peOk s):peW s=(fmL (peA s) (peV s) (peU s) (peW s).length).map (·.data.toList):=by
 obtain⟨h3,e⟩:=h;have hp:=peW_pos s;obtain⟨n,hn⟩: ∃n,n=(peW s).length:=⟨_,rfl⟩;rw[<-hn] at e hp ⊢;have hne:s≠⟨#[]⟩:=by
  intro h0;have:peW s= [[]]:=by rw[h0];rfl
  have:=h3 [] (by rw[this];simp);simp at this
 have hb: ¬(12<n\/0<=exP (peV s) (peU s) n):=fun hh=>hne (by rw[<-e];exact if_pos hh)
 have hall:=exP_all (v:=peV s) (u:=peU s) (n:=n) (by omega);have eJ:fmJ (peA s) (peV s) (peU s) n=s:=by rw[<-fmO_yes hp (by omega) hall];exact e
 have hj:=fmJ_join (peA s) (peV s) (peU s) n;rw[eJ] at hj;show cutA 44 [] s.data.toList=_;rw[<-hj];have hno: ∀y∈(fmL (peA s) (peV s) (peU s) n).map (·.data.toList),¬(44:UInt8)∈y:=by
  intro y hy;simp only[fmL,List.map_map,List.mem_map,List.mem_range,Function.comp] at hy;obtain⟨j,hjn,rfl⟩:=hy;exact fmW_comma (hall j hjn)
 have hl:((fmL (peA s) (peV s) (peU s) n).map (·.data.toList)).length=n:=by rw[List.length_map,fmL_len]
 obtain⟨L,hL⟩: ∃L,L=(fmL (peA s) (peV s) (peU s) n).map (·.data.toList):=⟨_,rfl⟩;rw[<-hL] at hno hl ⊢;cases L with
 |nil=>simp at hl;omega
 |cons x r=>
  rw[Lib.join_cons,cutA_join 44 r x [] (hno x (by simp)) (fun y hy=>hno y (by simp[hy]))];rfl
theorem peOk_sign {s:ByteArray} {j:Nat} (hj:j<(peW s).length) (h1:((peW s).getD j []).getD 0 0≠43) (h2:((peW s).getD j []).getD 0 0≠45): ¬peOk s:=by
 intro h;have e:=peOk_words h;have:(peW s).getD j []=(fmW (peA s) (peV s) (peU s) j).data.toList:=by
  conv=>lhs;rw[e]
  simp[List.getD,fmL,hj]
 rw[this,fmW_list] at h1 h2;cases ha:peA s j<;>rw[ha] at h1 h2<;>simp at h1 h2
theorem peOk_len {s:ByteArray} {j:Nat} (hj:j<(peW s).length) (h:((peW s).getD j []).length≠3): ¬peOk s:=fun ⟨h3,_⟩=>h (h3 _ (by simp[List.getD,hj]))
open Go.Shelf Go.RowKit
def laySplit_ren:Go.Shelf.Ren:=⟨fun|146=>63|221=>121|268=>185|138=>186|143=>187|195=>267|197=>268|218=>269|219=>270|260=>322|217=>323|225=>324|224=>325|267=>326|266=>346|314=>347|n=>n,fun|9=>9|31=>72|3=>3|4=>4|0=>0|105=>177|21=>21|5=>5|46=>141|119=>204|139=>207|138=>206|146=>208|51=>201|n=>n,fun|1=>0|3=>2|4=>3|n=>n⟩
theorem laySplit:Go.Proofs.Lays.n146 Tryz.prog laySplit_ren:= {
 mixed:=by kernel_rfl
 f138:=Tryz.func186.trans (congrArg some (by kernel_rfl))
 f143:=Tryz.func187.trans (congrArg some (by kernel_rfl))
 f146:=Tryz.func63.trans (congrArg some (by kernel_rfl))
 f195:=Tryz.func267.trans (congrArg some (by kernel_rfl))
 f197:=Tryz.func268.trans (congrArg some (by kernel_rfl))
 f217:=Tryz.func323.trans (congrArg some (by kernel_rfl))
 f218:=Tryz.func269.trans (congrArg some (by kernel_rfl))
 f219:=Tryz.func270.trans (congrArg some (by kernel_rfl))
 f221:=Tryz.func121.trans (congrArg some (by kernel_rfl))
 f224:=Tryz.func325.trans (congrArg some (by kernel_rfl))
 f225:=Tryz.func324.trans (congrArg some (by kernel_rfl))
 f260:=Tryz.func322.trans (congrArg some (by kernel_rfl))
 f266:=Tryz.func346.trans (congrArg some (by kernel_rfl))
 f267:=Tryz.func326.trans (congrArg some (by kernel_rfl))
 f268:=Tryz.func185.trans (congrArg some (by kernel_rfl))
 f314:=Tryz.func347.trans (congrArg some (by kernel_rfl))
 t0:=Tryz.underlying0
 a0:=Tryz.isAgg0
 z0:=Tryz.sizeOf0
 v0:=Tryz.zeroValue0
 t3:=Tryz.underlying3
 a3:=Tryz.isAgg3
 z3:=Tryz.sizeOf3
 v3:=Tryz.zeroValue3
 t4:=Tryz.underlying4
 a4:=Tryz.isAgg4
 z4:=Tryz.sizeOf4
 v4:=Tryz.zeroValue4
 t5:=Tryz.underlying5
 a5:=Tryz.isAgg5
 z5:=Tryz.sizeOf5
 v5:=Tryz.zeroValue5
 t9:=Tryz.underlying9
 a9:=Tryz.isAgg9
 z9:=Tryz.sizeOf9
 v9:=Tryz.zeroValue9
 t21:=Tryz.underlying21
 a21:=Tryz.isAgg21
 z21:=Tryz.sizeOf21
 v21:=Tryz.zeroValue21
 t31:=Tryz.underlying72
 a31:=Tryz.isAgg72
 z31:=Tryz.sizeOf72
 v31:=Tryz.zeroValue72
 t46:=Tryz.underlying141
 a46:=Tryz.isAgg141
 z46:=Tryz.sizeOf141
 v46:=Tryz.zeroValue141
 t51:=Tryz.underlying201
 a51:=Tryz.isAgg201
 z51:=Tryz.sizeOf201
 v51:=Tryz.zeroValue201
 t105:=Tryz.underlying177
 a105:=Tryz.isAgg177
 z105:=Tryz.sizeOf177
 v105:=Tryz.zeroValue177
 t119:=Tryz.underlying204
 a119:=Tryz.isAgg204
 z119:=Tryz.sizeOf204
 t138:=Tryz.underlying206
 a138:=Tryz.isAgg206
 z138:=Tryz.sizeOf206
 v138:=Tryz.zeroValue206
 t139:=Tryz.underlying207
 a139:=Tryz.isAgg207
 z139:=Tryz.sizeOf207
 v139:=Tryz.zeroValue207
 t146:=Tryz.underlying208
 a146:=Tryz.isAgg208
 z146:=Tryz.sizeOf208
 v146:=Tryz.zeroValue208
 g1:=by kernel_rfl
 g3:=by kernel_rfl
 g4:=by kernel_rfl}
theorem split_any (s:ByteArray) (m:Int) (w:World) (hs:s.size<4294967281) (hm:w.cell? ⟨laySplit_ren.g 1,0,none⟩=some (.int .i64 m)):
 Calls Tryz.prog 63 #[.string s,.string ⟨#[44]⟩] w fun e w'=>
  e=.returned (.slice (some ⟨w.heap.size,0,none⟩) (Lib.countB s ⟨#[44]⟩+1) (Lib.countB s ⟨#[44]⟩+1))/\w'=w.alloc (.cells ((Lib.splitB ⟨#[44]⟩ 0 (Lib.countB s ⟨#[44]⟩) s).map Value.string).toArray 9):=
 Any.strings_Split laySplit (by kernel_rfl) s ⟨#[44]⟩ m w hs hm (by decide)
def spB (s:ByteArray):List ByteArray:=Lib.splitB ⟨#[44]⟩ 0 (Lib.countB s ⟨#[44]⟩) s
theorem spB_words (s:ByteArray):(spB s).map (·.data.toList)=peW s:=by
 unfold spB;rw[Lib.splitB_data];refine splitK_cut 44 _ _ ?_;show _<=Lib.count s.data.toList [44];rw[Lib.count_one];exact nr_
theorem spB_len (s:ByteArray):(spB s).length=(peW s).length:=by rw[<-spB_words,List.length_map]
theorem spB_count (s:ByteArray):Lib.countB s ⟨#[44]⟩+1=(peW s).length:=by
 have:=Lib.splitB_all ⟨#[44]⟩ (by decide) 0 _ s rfl;rw[<-spB_len];exact this.symm
theorem spB_cell (s:ByteArray) (w:World) {j:Nat} (hj:j<(peW s).length):(w.alloc (.cells ((spB s).map Value.string).toArray 9)).cell? ⟨w.heap.size,j,none⟩=some (.string ((spB s).getD j ⟨#[]⟩)):=by
 rw[<-spB_len] at hj;simp[go_sem,List.getD,hj]
theorem spB_at (s:ByteArray) (j:Nat):((spB s).getD j ⟨#[]⟩).data.toList=(peW s).getD j []:=by
 rw[<-spB_words];by_cases hj:j<(spB s).length
 ·simp[List.getD,hj]
 ·simp[List.getD,List.getElem?_eq_none (Nat.le_of_not_lt hj)]
noncomputable def peN (s:ByteArray):Nat:=if s.toList= [110,111,110,101] then 0 else @ite _ (peOk s) (Classical.propDecidable _) (peW s).length 0
noncomputable def pdB (s:ByteArray):Bool:=if s.toList= [110,111,110,101] then true else @decide (peOk s) (Classical.propDecidable _)
theorem pe_none {s:ByteArray} (h:s.toList= [110,111,110,101]):peN s=0/\pdB s=true:=⟨if_pos h,if_pos h⟩
theorem pe_no {s:ByteArray} (h: ¬s.toList= [110,111,110,101]) (h2: ¬peOk s):peN s=0/\pdB s=false:=by
 unfold peN pdB;rw[if_neg h,if_neg h];exact⟨@if_neg _ (Classical.propDecidable _) h2 _ _ _,@decide_eq_false _ (Classical.propDecidable _) h2⟩
theorem pe_yes {s:ByteArray} (h: ¬s.toList= [110,111,110,101]) (h2:peOk s):peN s=(peW s).length/\pdB s=true:=by
 unfold peN pdB;rw[if_neg h,if_neg h];exact⟨@if_pos _ (Classical.propDecidable _) h2 _ _ _,@decide_eq_true _ (Classical.propDecidable _) h2⟩
theorem own_nilE (w:World) (lo hi:Nat) (a:Nat->Bool) (v u:Nat->Int):Own w lo hi 48 3 none 0 0 (eds a v u):=.inl ⟨rfl,rfl,rfl⟩
theorem own_newE (w:World) (a:Nat->Bool) (v u:Nat->Int):Own (w.alloc (Obj.cells #[] 48)) w.heap.size (w.alloc (Obj.cells #[] 48)).heap.size 48 3 (some ⟨w.heap.size,0,none⟩) 0 0 (eds a v u):=
 .inr ⟨w.heap.size,#[],rfl,nr_,by simp,heap_alloc_new w _,nr_,by unfold maxLen;omega,rfl,fun j hj=>absurd hj (by omega)⟩
theorem pe_word {s P:ByteArray} {k:Nat} (hP:P.data.toList=(peW s).getD k []) (h3:P.size=3):peA s k=(((P[0]'(by omega)).toNat:Int)==43)/\peV s k=(((P[1]'(by omega)).toNat:Int)-48)/\peU s k=(((P[2]'(by omega)).toNat:Int)-48):=by
 unfold peA peV peU;rw[<-hP];obtain⟨⟨l⟩⟩:=P;match l,h3 with
 | [x,y,z],_=>
   refine⟨?_,rfl,rfl⟩;show (x==43)=(((x.toNat:Nat):Int)==43);by_cases hx:x=43
   ·subst hx;rfl
   ·rw[beq_eq_false_iff_ne.2 hx];symm;rw[beq_eq_false_iff_ne];intro h;refine hx (UInt8.toNat_inj.1 ?_);show _=43;omega
theorem wrB (x:UInt8):IntKind.i64.wrap (IntKind.i64.wrap (x.toNat:Int)-48)=(x.toNat:Int)-48:=by
 have:=x.toNat_lt;rw[Go.IntWalk.i64_in (x.toNat:Int) (by omega),Go.IntWalk.i64_in _ (by omega)]
section
variable {n:Nat} {a b:Nat->Bool} {v u p q:Nat->Int}
theorem fmJ_congr: ∀k,(∀j,j<k->a j=b j/\v j=p j/\u j=q j)->fmJ a v u k=fmJ b p q k
 |0,_=>rfl
 |k+1,h=>by
  have ih:=fmJ_congr k (fun j hj=>h j (by omega))
  obtain⟨h1,h2,h3⟩:=h k (by omega)
  show (if k=0 then fmJ a v u k else fmJ a v u k++⟨#[44]⟩)++sgn (a k)++dvB (v k)++dvB (u k)=(if k=0 then fmJ b p q k else fmJ b p q k++⟨#[44]⟩)++sgn (b k)++dvB (p k)++dvB (q k)
  rw[ih,h1,h2,h3]
theorem peW_fm (h0:0<n) (hall: ∀j,j<n->exB (v j) (u j)=true):peW (fmJ a v u n)=(fmL a v u n).map (·.data.toList):=by
 have hj:=fmJ_join a v u n;show cutA 44 [] (fmJ a v u n).data.toList=_;rw[<-hj];have hno: ∀y∈(fmL a v u n).map (·.data.toList),¬(44:UInt8)∈y:=by
  intro y hy;simp only[fmL,List.map_map,List.mem_map,List.mem_range,Function.comp] at hy;obtain⟨j,hjn,rfl⟩:=hy;exact fmW_comma (hall j hjn)
 have hl:((fmL a v u n).map (·.data.toList)).length=n:=by rw[List.length_map,fmL_len]
 obtain⟨L,hL⟩: ∃L,L=(fmL a v u n).map (·.data.toList):=⟨_,rfl⟩;rw[<-hL] at hno hl ⊢;cases L with
 |nil=>simp at hl;omega
 |cons x r=>
  rw[Lib.join_cons,cutA_join 44 r x [] (hno x (by simp)) (fun y hy=>hno y (by simp[hy]))];rfl
theorem dg_back {x:Int} (h:vxB x=true):((UInt8.ofNat (48+x.toNat)).toNat:Int)-48=x:=by
 obtain⟨h0,h6⟩:=vxB_yes h;rw[UInt8.toNat_ofNat'];have:(48+x.toNat)%2^8=48+x.toNat:=Nat.mod_eq_of_lt (by omega);omega
theorem pe_fm (hne:fmO n a v u≠⟨#[]⟩):pdB (fmO n a v u)=true/\peN (fmO n a v u)=n:=by
 by_cases hb:12<n\/0<=exP v u n
 ·exact absurd (if_pos hb) hne
 by_cases h0:n=0
 ·subst h0;rw[fmO_none];have:=pe_none (s:=⟨#[110,111,110,101]⟩) (by rw[ByteArray.toList_eq]);exact⟨this.2,this.1⟩
 ·have hall:=exP_all (v:=v) (u:=u) (n:=n) (by omega);rw[fmO_yes (by omega) (by omega) hall];have hW:=peW_fm (a:=a) (v:=v) (u:=u) (n:=n) (by omega) hall;have hlen:(peW (fmJ a v u n)).length=n:=by rw[hW,List.length_map,fmL_len]
  have hat: ∀j,j<n->(peW (fmJ a v u n)).getD j []= [if a j then 43 else 45,UInt8.ofNat (48+(v j).toNat),UInt8.ofNat (48+(u j).toNat)]:=by
   intro j hj;rw[hW,<-fmW_list];simp[List.getD,fmL,hj]
  have hA: ∀j,j<n->peA (fmJ a v u n) j=a j/\peV (fmJ a v u n) j=v j/\peU (fmJ a v u n) j=u j:=by
   intro j hj;obtain⟨e1,e2⟩:=exB_two (hall j hj);unfold peA peV peU;rw[hat j hj];refine⟨?_,dg_back e1,dg_back e2⟩;cases a j<;>rfl
  have hno: ¬(fmJ a v u n).toList= [110,111,110,101]:=by
   intro h;have h1:=hat 0 (by omega);have h2:peW (fmJ a v u n)= [[110,111,110,101]]:=by
    show cutA 44 [] (fmJ a v u n).data.toList=_;rw[<-ByteArray.toList_eq,h];rfl
   rw[h2] at h1;have:=congrArg List.length h1;simp at this
  have hok:peOk (fmJ a v u n):=by
   refine⟨fun x hx=> ?_,?_⟩
   ·obtain⟨j,hj,e⟩:=List.mem_iff_getElem.1 hx;have:=hat j (by omega);have e2:(peW (fmJ a v u n)).getD j []=x:=by simp[List.getD,hj,e]
    rw[e2] at this;rw[this];rfl
   ·rw[hlen,fmO_yes (by omega) (by omega) (fun j hj=>by rw[(hA j hj).2.1,(hA j hj).2.2];exact hall j hj)];exact fmJ_congr n hA
  obtain⟨h1,h2⟩:=pe_yes hno hok;exact⟨h2,by rw[h1,hlen]⟩
theorem pe_empty:pdB ⟨#[]⟩=false/\peN ⟨#[]⟩=0:=by
 have h1: ¬(⟨#[]⟩:ByteArray).toList= [110,111,110,101]:=by rw[ByteArray.toList_eq];intro h;cases h
 have h2: ¬peOk ⟨#[]⟩:=fun h=>by
  have:=h.1 [] (by show []∈cutA 44 [] [];unfold cutA;simp);simp at this
 have:=pe_no h1 h2;exact⟨this.2,this.1⟩
end
def redL (f:Nat->Option Nat) (left:Nat):Option (List Nat):=
 if left=0 then some []
 else match f left with
  |none=>none
  |some v=>if h:left.testBit v=true then (redL f (left^^^2^v)).map (v:: ·) else none
termination_by left
decreasing_by exact xor_bit_lt h
theorem redL_zero (f:Nat->Option Nat):redL f 0=some []:=by unfold redL;rfl
theorem redL_none {f:Nat->Option Nat} {left:Nat} (h0:left≠0) (h:f left=none):redL f left=none:=by
 unfold redL;rw[if_neg h0,h]
theorem redL_some {f:Nat->Option Nat} {left v:Nat} (hb:left.testBit v=true) (h:f left=some v):redL f left=(redL f (left^^^2^v)).map (v:: ·):=by
 have h0:left≠0:=by
  rintro rfl;simp at hb
 rw[redL,if_neg h0,h];simp[hb]
theorem redL_step {f:Nat->Option Nat} {left v:Nat} {o:Option (List Nat)} {T:List Nat} (hb:left.testBit v=true) (h:f left=some v) (e:o=(redL f left).map (T++ ·)):o=(redL f (left^^^2^v)).map ((T++ [v])++ ·):=by
 rw[e,redL_some hb h,Option.map_map];congr 1;funext l
 simp
theorem redL_end {f:Nat->Option Nat} {o:Option (List Nat)} {T:List Nat} (e:o=(redL f 0).map (T++ ·)):o=some T:=by
 rw[e,redL_zero];simp
theorem redL_stuck {f:Nat->Option Nat} {left:Nat} {o:Option (List Nat)} {T:List Nat} (h0:left≠0) (h:f left=none) (e:o=(redL f left).map (T++ ·)):o=none:=by
 rw[e,redL_none h0 h];rfl
theorem redL_start {f:Nat->Option Nat} {left:Nat}:redL f left=(redL f left).map ([]++ ·):=by
 cases redL f left<;>rfl
def fsF (p:Nat->Nat->Bool) (left:Nat):Option Nat:=(listN left).find? (p left)
section
variable {p:Nat->Nat->Bool} {left v k:Nat}
theorem fsF_bit (h:fsF p left=some v):v<7/\left.testBit v=true:=mem_listN.1 (List.mem_of_find?_eq_some h)
theorem fsF_place (h:fsF p left=some v): ∃k,∃hk:k<(listN left).length,(listN left)[k]=v/\p left v=true/\ ∀j (hj:j<k),p left ((listN left)[j]'(by omega))=false:=by
 unfold fsF at h;rw[List.find?_eq_some_iff_getElem] at h;obtain⟨h1,k,hk,h2,h3⟩:=h;exact⟨k,hk,h2,h1,fun j hj=>by have:=h3 j hj;simpa using this⟩
theorem fsF_none' (h:fsF p left=none): ∀j (hj:j<(listN left).length),p left (listN left)[j]=false:=by
 intro j hj;unfold fsF at h;rw[List.find?_eq_none] at h;have:=h _ (List.getElem_mem hj);simpa using this
theorem fsF_least (hv:v<7) (hb:left.testBit v=true) (hy:p left v=true) (hmin: ∀u,u<v->left.testBit u=true->p left u=false):fsF p left=some v:=by
 cases h:fsF p left with
 |none=>
  unfold fsF at h;rw[List.find?_eq_none] at h;exact absurd hy (h v (mem_listN.2 ⟨hv,hb⟩))
 |some u=>
  have hu:=fsF_bit h;have hyu:p left u=true:=by unfold fsF at h;exact List.find?_some h
  rcases Nat.lt_trichotomy u v with h1|h1|h1
  ·rw[hmin u h1 hu.2] at hyu;cases hyu
  ·rw[h1]
  ·exfalso;unfold fsF listN listK at h;rw[List.find?_eq_some_iff_append] at h;obtain⟨_,us,bs,hab,hno⟩:=h;have hsort:((List.range 7).filter fun v=>left.testBit v).Pairwise (· < ·):=List.Pairwise.filter _ List.pairwise_lt_range;have hvm:v∈(List.range 7).filter fun v=>left.testBit v:=by simp[hv,hb]
   rw[hab] at hvm hsort;rw[List.mem_append] at hvm;rcases hvm with hvm|hvm
   ·have:=hno v hvm;rw[hy] at this;cases this
   ·rw[List.mem_cons] at hvm;rcases hvm with rfl|hvm
    ·omega
    ·have:=(List.pairwise_cons.1 (List.pairwise_append.1 hsort).2.1).1 v hvm;omega
theorem fsF_no (h: ∀u,u<7->left.testBit u=true->p left u=false):fsF p left=none:=by
 unfold fsF;rw[List.find?_eq_none];intro v hv;have:=mem_listN.1 hv;simp[h v this.1 this.2]
end
def thB (r:Nat->Nat) (left v:Nat):Bool:=r v&&&left==0||(r v&&&left)|||2^v==left
def thT (r:Nat->Nat) (left:Nat):Nat->Option Nat
 |0=>none
 |k+1=>if (left.testBit k&&thB r left k)=true then some k else thT r left k
def optI:Option Nat->Int
 |none=> -1
 |some v=>(v:Int)
theorem thT_bit {r:Nat->Nat} {left:Nat}: ∀ {k v},thT r left k=some v->v<k/\left.testBit v=true:=by
 intro k;induction k with
 |zero=>intro v h;cases h
 |succ k ih=>
  intro v h;rw[thT] at h;split at h
  ·rename_i h2;injection h with h
   subst h;rw[Bool.and_eq_true] at h2;exact⟨by omega,h2.1⟩
  ·have:=ih h;exact⟨by omega,this.2⟩
theorem thT_no {r:Nat->Nat} {left k:Nat} (h:left.testBit k=false\/thB r left k=false):thT r left (k+1)=thT r left k:=by
 rw[thT];rcases h with h|h<;>simp[h]
theorem thT_yes {r:Nat->Nat} {left k:Nat} (h:left.testBit k=true) (h2:thB r left k=true):thT r left (k+1)=some k:=by
 rw[thT,h,h2];rfl
def thG (r:Nat->Nat) (left:Nat) (l:List Nat):Option Nat:=l.foldl (fun a v=>if thB r left v=true then some v else a) none
theorem thG_snoc {r:Nat->Nat} {left:Nat} {l:List Nat} {v:Nat}:thG r left (l++ [v])=if thB r left v=true then some v else thG r left l:=by
 unfold thG;rw[List.foldl_append];rfl
theorem thG_K {r:Nat->Nat} {left:Nat}: ∀k,thG r left (listK left k)=thT r left k:=by
 intro k;induction k with
 |zero=>rfl
 |succ k ih=>
  cases h:left.testBit k
  ·rw[listK_no h,thT_no (.inl h),ih]
  ·rw[listK_yes h,thG_snoc,ih];cases h2:thB r left k
   ·rw[thT_no (.inr h2)];rfl
   ·rw[thT_yes h h2];rfl
theorem thT_more {r:Nat->Nat} {left m:Nat} (hl:left<2^m): ∀k,m<=k->thT r left k=thT r left m:=by
 intro k hk;induction hk with
 |refl=>rfl
 |step hk ih=>
  rename_i k;rw[thT_no (.inl _),ih];cases h:left.testBit k
  ·rfl
  ·exact absurd (bit_lt hl h) (by simp at hk ⊢;omega)
theorem thB_sub {r:Nat->Nat} {left v:Nat} (hb:left.testBit v=true) (hi:(r v).testBit v=false):((r v&&&left)|||2^v=left)↔(r v&&&left=left-2^v):=by
 have h1:=xor_bit_sub hb;rw[<-h1];constructor
 ·intro h;apply Nat.eq_of_testBit_eq;intro i;have:=congrArg (Nat.testBit · i) h;simp only[Nat.testBit_or,Nat.testBit_and,Nat.testBit_two_pow] at this;rw[Nat.testBit_xor,Nat.testBit_and,Nat.testBit_two_pow];by_cases e:v=i
  ·subst e;simp[hi,hb]
  ·simp[e] at this;simp[e];exact this
 ·intro h;apply Nat.eq_of_testBit_eq;intro i;have:=congrArg (Nat.testBit · i) h;simp only[Nat.testBit_xor,Nat.testBit_and,Nat.testBit_two_pow] at this;rw[Nat.testBit_or,Nat.testBit_and,Nat.testBit_two_pow];by_cases e:v=i
  ·subst e;simp[hb]
  ·simp[e] at this;simp[e];exact this
def thF (r:Nat->Nat) (left:Nat):Option Nat:=thT r left 7
def thO (r:Nat->Nat) (m:Nat):Option (List Nat):=redL (thF r) (2^m-1)
section
variable {P:Program} {ops:Array Oper} {Q:Exit->Act->World->Prop} {md:Region.Mode} {S:World->Prop}
theorem take_yes {i d:Nat} {oi:Oper} {v:Value} {fuel:Nat} {listed:Array Bool} {a:Act} {w:World} (hi:ops[i]? =some oi) (hd:oi.dst=some d)
 (hs:Region.noSelect ops=true) (hf:Region.free md ops listed i=true) (hr:(Region.ready md ops listed).contains i=true)
 (hQ: ∀c a w,Q (.panic c) (a.put oi.dst v) w->Q (.panic c) a w) (hw:Region.wanted oi (yielded ops a.tmps)=true) (hy: ∀w,S w->(execOp a.eval oi).run P w=.ok (.value v) w) (hS:S w)
 (h:wpAnyH P md ops Q S fuel (listed.setIfInBounds i true) (a.put (some d) v) w):wpAnyH P md ops Q S (fuel+1) listed a w:=
 wpAnyH_take hi hs hf hr hQ (.inl ⟨hw,hy⟩) hS (hd▸h)
theorem take_no {i d:Nat} {oi:Oper} {fuel:Nat} {listed:Array Bool} {a:Act} {w:World} (hi:ops[i]? =some oi) (hd:oi.dst=some d)
 (hs:Region.noSelect ops=true) (hf:Region.free md ops listed i=true) (hr:(Region.ready md ops listed).contains i=true)
 (hQ: ∀c a w,Q (.panic c) (a.put oi.dst undef) w->Q (.panic c) a w) (hw:Region.wanted oi (yielded ops a.tmps)=false) (hS:S w)
 (h:wpAnyH P md ops Q S fuel (listed.setIfInBounds i true) (a.put (some d) undef) w):wpAnyH P md ops Q S (fuel+1) listed a w:=
 wpAnyH_take hi hs hf hr hQ (.inr ⟨hw,rfl⟩) hS (hd▸h)
end
theorem sl0 {α:Type} (l:List α) (i:Nat) (a:α):l.toArray.setIfInBounds i a=(l.set i a).toArray:=List.setIfInBounds_toArray l i a
theorem sl1 {α:Type} (a b:α) (l:List α):(a::l).set 0 b=b::l:=rfl
theorem sl2 {α:Type} (a b:α) (l:List α) (n:Nat):(a::l).set (n+1) b=a::l.set n b:=rfl
section
variable {P:Program} {ops:Array Oper} {Q:Exit->Act->World->Prop} {md:Region.Mode} {S:World->Prop}
theorem pcY (i:Nat) {d:Nat} {oi:Oper} {v:Value} {fuel:Nat} {l:Array Bool} {a b:Act} {w:World} (h:wpAnyH P md ops Q S fuel (l.setIfInBounds i true) b w) (hi:ops[i]? =some oi:=by rfl) (hd:oi.dst=some d:=by rfl)
 (hk:(Region.noSelect ops&&Region.free md ops l i&&(Region.ready md ops l).contains i)=true:=by kernel_rfl)
 (hw:Region.wanted oi (yielded ops a.tmps)=true:=by rfl) (hy: ∀w,S w->(execOp a.eval oi).run P w=.ok (.value v) w:=by intro w u;(try dsimp only at u);go_simp<;>with_reducible rfl) (ha:a.put (some d) v=b:=by simp only[Act.put,sl0,sl1,sl2];exact rfl) (hS:S w:=by assumption) (hQ: ∀c a w,Q (.panic c) (a.put oi.dst v) w->Q (.panic c) a w:=by exact fun _ _ _ h=>h):wpAnyH P md ops Q S (fuel+1) l a w:=by
 subst ha;simp only[Bool.and_eq_true] at hk;exact take_yes hi hd hk.1.1 hk.1.2 hk.2 hQ hw hy hS h
theorem pcN (i:Nat) {d:Nat} {oi:Oper} {fuel:Nat} {l:Array Bool} {a b:Act} {w:World} (h:wpAnyH P md ops Q S fuel (l.setIfInBounds i true) b w) (hi:ops[i]? =some oi:=by rfl) (hd:oi.dst=some d:=by rfl)
 (hk:(Region.noSelect ops&&Region.free md ops l i&&(Region.ready md ops l).contains i)=true:=by kernel_rfl)
 (hw:Region.wanted oi (yielded ops a.tmps)=false:=by rfl) (ha:a.put (some d) undef=b:=by simp only[Act.put,sl0,sl1,sl2];exact rfl) (hS:S w:=by assumption) (hQ: ∀c a w,Q (.panic c) (a.put oi.dst undef) w->Q (.panic c) a w:=by exact fun _ _ _ h=>h):wpAnyH P md ops Q S (fuel+1) l a w:=by
 subst ha;simp only[Bool.and_eq_true] at hk;exact take_no hi hd hk.1.1 hk.1.2 hk.2 hQ hw hS h
theorem ptY {j d:Nat} {oi:Oper} {v:Value} {fuel:Nat} {l:Array Bool} {a b:Act} {w:World} (h:wpAnyH P md ops Q S fuel ((l.setIfInBounds j true).setIfInBounds (j+1) true) b w) (hi:ops[j+1]? =some oi:=by rfl) (hd:oi.dst=some d:=by rfl)
 (hk:(Region.noSelect ops&&Region.free md ops (l.setIfInBounds j true) (j+1)&&(Region.ready md ops (l.setIfInBounds j true)).contains (j+1))=true:=by kernel_rfl)
 (hw:Region.wanted oi (yielded ops a.tmps)=true:=by rfl) (hy: ∀w,S w->(execOp a.eval oi).run P w=.ok (.value v) w:=by intro w u;(try dsimp only at u);go_simp<;>with_reducible rfl) (ha:a.put (some d) v=b:=by simp only[Act.put,sl0,sl1,sl2];exact rfl) (hS:S w:=by assumption) (hQ: ∀c a w,Q (.panic c) (a.put oi.dst v) w->Q (.panic c) a w:=by exact fun _ _ _ h=>h):wpAnyH P md ops Q S (fuel+1) (l.setIfInBounds j true) a w:=pcY (j+1) h hi hd hk hw hy ha hS hQ
theorem ptN {j d:Nat} {oi:Oper} {fuel:Nat} {l:Array Bool} {a b:Act} {w:World} (h:wpAnyH P md ops Q S fuel ((l.setIfInBounds j true).setIfInBounds (j+1) true) b w) (hi:ops[j+1]? =some oi:=by rfl) (hd:oi.dst=some d:=by rfl)
 (hk:(Region.noSelect ops&&Region.free md ops (l.setIfInBounds j true) (j+1)&&(Region.ready md ops (l.setIfInBounds j true)).contains (j+1))=true:=by kernel_rfl)
 (hw:Region.wanted oi (yielded ops a.tmps)=false:=by rfl) (ha:a.put (some d) undef=b:=by simp only[Act.put,sl0,sl1,sl2];exact rfl) (hS:S w:=by assumption) (hQ: ∀c a w,Q (.panic c) (a.put oi.dst undef) w->Q (.panic c) a w:=by exact fun _ _ _ h=>h):wpAnyH P md ops Q S (fuel+1) (l.setIfInBounds j true) a w:=pcN (j+1) h hi hd hk hw ha hS hQ
theorem wpH {id:Nat} {a:Act} {w:World} (hS:SH S w) (h:S w.drew->wpAnyH P .any ops Q S ops.size (Array.replicate ops.size false) a w.drew) (hm:P.follows .mixedOrders=true:=by kernel_rfl):(Code.region id ops true).wp P Q a w:=wp_region_held_drew hm hS h
theorem w1H (i:Nat) {o:Oper} {fuel:Nat} {l:Array Bool} {a:Act} {w:World} (h: ∀K':Act->World->Prop,Shut (∀a w,S w->(S w->wpAnyH P md ops Q S fuel (l.setIfInBounds i true) a w)->K' a w)->if Region.wanted o (yielded ops a.tmps)=true then Oper.wp P o a w K' Q else K' (a.put o.dst undef) w)
 (ho:ops[i]? =some o:=by rfl) (hr:Region.ready md ops l= [i]:=by kernel_rfl):wpAnyH P md ops Q S (fuel+1) l a w:=
 wpAnyH_ready hr (by simp) (AllReadyH.cons ho h AllReadyH.nil)
end
end Go.Proofs.YtfabbohijhjpcaaGreatDoor
